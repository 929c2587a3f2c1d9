/- Times and summaries: summaries and times as plain data. -/
import Derived.Test.YthnojkbkojpadaaGreatRows
import Derived.Test.YthnojkbkojpadaaGreatZG0687ac95
import Derived.Test.YthnojkbkojpadaaGreatZG07857b98
set_option maxRecDepth 100000
set_option linter.unusedVariables false
set_option linter.unusedSimpArgs false
set_option linter.constructorNameAsVariable false
set_option linter.all false

namespace Go.Proofs.YthnojkbkojpadaaGreat
noncomputable section
open Go.RowKit Go.Sx
instance envN:Env:=⟨fun _=>True,fun _ _ _ _=>trivial⟩
structure S where
 f:Int
 k:Int
 a:Int
 n:Int
 p0:Int
 p1:Int
 p2:Int
 p3:Int
deriving DecidableEq,Inhabited
abbrev eI:El Int:=eInt .i64
abbrev I4:=Int×Int×Int×Int
abbrev e4:El I4:=.pair eI (.pair eI (.pair eI eI))
abbrev I8:=Int×Int×Int×Int×I4
def S.ofP:I8→S:=fun (f,k,a,n,p0,p1,p2,p3)=>⟨f,k,a,n,p0,p1,p2,p3⟩
def S.toP (s:S):I8:=(s.f,s.k,s.a,s.n,s.p0,s.p1,s.p2,s.p3)
def eS:El S:=.iso (.pair eI (.pair eI (.pair eI (.pair eI e4)))) S.ofP S.toP (fun _=>rfl) (fun _=>rfl)
structure T where
 e:Int
 d:Int
 l0:Int
 l1:Int
 l2:Int
 l3:Int
deriving DecidableEq,Inhabited
abbrev I6:=Int×Int×I4
def T.ofP:I6→T:=fun (e,d,l0,l1,l2,l3)=>⟨e,d,l0,l1,l2,l3⟩
def T.toP (t:T):I6:=(t.e,t.d,t.l0,t.l1,t.l2,t.l3)
def eT:El T:=.iso (.pair eI (.pair eI e4)) T.ofP T.toP (fun _=>rfl) (fun _=>rfl)
abbrev dI:Dv Int:=dInt .i64
abbrev dS:Dv S:=.agg eS
abbrev dT:Dv T:=.agg eT
abbrev dSE:Dv (S×Int):=.tup (.cons dS (.one dI))
abbrev dTE:Dv (T×Int):=.tup (.cons dT (.one dI))
abbrev aS:DA S:=.one dS
abbrev aSS:DA (S×S):=.cons dS (.one dS)
abbrev aT:DA T:=.one dT
abbrev aI:DA Int:=.one dI
abbrev aII:DA (Int×Int):=.cons dI (.one dI)
abbrev aST:DA (S×T):=.cons dS (.one dT)
abbrev aTT:DA (T×T):=.cons dT (.one dT)
theorem puI (r:Int):Pu (dI.enc r):=pu_v _
theorem puB (r:Bool):Pu (dBool.enc r):=pu_v _
theorem pus4 (a b c d:Int):Pus [.v (.int .i64 a),.v (.int .i64 b),.v (.int .i64 c),.v (.int .i64 d)]:=q1t (pu_v _) (q1t (pu_v _) (q1t (pu_v _) (q1t (pu_v _) qhh)))
theorem puS (r:S):Pu (dS.enc r):=pu_agg (q1t (pu_v _) (q1t (pu_v _) (q1t (pu_v _) (q1t (pu_v _) (pus4 _ _ _ _)))))
theorem puT (r:T):Pu (dT.enc r):=pu_agg (q1t (pu_v _) (q1t (pu_v _) (pus4 _ _ _ _)))
theorem puSE (r:S×Int):Pu (dSE.enc r):=pu_tup (q1t (puS _) (q1t (pu_v _) qhh))
theorem puTE (r:T×Int):Pu (dTE.enc r):=pu_tup (q1t (puT _) (q1t (pu_v _) qhh))
def tab0:PTab Tryz.prog:=PTab.nil
end
end Go.Proofs.YthnojkbkojpadaaGreat

namespace Go.Proofs.YthnojkbkojpadaaGreat
noncomputable section
open Go.RowKit Go.Sx
set_option linter.unusedVariables false
def may_F (a:S):Dv.T dBool:=
 bif !(decide (a.f<(0:Int))||decide (a.f > (4:Int)))&&!(decide (a.n<(0:Int))||decide (a.n > (4:Int)))&&!(decide (a.k<(0:Int))||(decide (a.k > a.f)||decide (IntKind.i64.wrap (a.k+a.n) > (4:Int))))&&!(!(decide (a.a≥(0:Int))&&decide (a.a≤(1048576:Int)))||a.k==(0:Int)&&a.a != (0:Int)) then bif !(decide (a.p0≥(0:Int))&&decide (a.p0≤(1048576:Int)))||decide ((0:Int)≥a.n)&&a.p0 != (0:Int) then false else bif !(decide (a.p1≥(0:Int))&&decide (a.p1≤(1048576:Int)))||decide ((1:Int)≥a.n)&&a.p1 != (0:Int) then false else bif !(decide (a.p2≥(0:Int))&&decide (a.p2≤(1048576:Int)))||decide ((2:Int)≥a.n)&&a.p2 != (0:Int) then false else bif !(decide (a.p3≥(0:Int))&&decide (a.p3≤(1048576:Int)))||decide ((3:Int)≥a.n)&&a.p3 != (0:Int) then false else true
 else false
theorem may_ok:q04 Tryz.prog 101 aS dBool (fun g=>may_F g) (fun _=>[]):=q0l (Γ:=(PTab.gamz tab0 [] [(68,0,5)])) (Λ:=noΛ) (PTab.okz tab0 [] [(68,0,5)]) q0o 100 default (fun g=>by kernel_rfl) (fun g=>by kernel_rfl)
def q0x (a:S):Dv.T dI:=
 bif decide (a.f<(0:Int))||(decide (a.f > (4:Int))||(decide (a.n<(0:Int))||(decide (a.n > (4:Int))||(decide (a.k<(0:Int))||(decide (a.k > a.f)||(decide (IntKind.i64.wrap (a.k+a.n) > (4:Int))||(decide (a.a<(0:Int))||(decide (a.a > (1048576:Int))||a.k==(0:Int)&&a.a != (0:Int))))))))) then (20:Int)
 else bif decide (a.p0<(0:Int))||(decide (a.p0 > (1048576:Int))||decide ((0:Int)≥a.n)&&a.p0 != (0:Int)) then (20:Int) else bif decide (a.p1<(0:Int))||(decide (a.p1 > (1048576:Int))||decide ((1:Int)≥a.n)&&a.p1 != (0:Int)) then (20:Int) else bif decide (a.p2<(0:Int))||(decide (a.p2 > (1048576:Int))||decide ((2:Int)≥a.n)&&a.p2 != (0:Int)) then (20:Int) else bif decide (a.p3<(0:Int))||(decide (a.p3 > (1048576:Int))||decide ((3:Int)≥a.n)&&a.p3 != (0:Int)) then (20:Int) else (0:Int)
theorem qrb:q04 Tryz.prog 110 aS dI (fun g=>q0x g) (fun _=>[]):=q0l (Γ:=(PTab.gamz tab0 [] [(68,0,5)])) (Λ:=noΛ) (PTab.okz tab0 [] [(68,0,5)]) q0o 100 default (fun g=>by kernel_rfl) (fun g=>by kernel_rfl)
def q0e (t:T):Dv.T dI:=
 bif decide (t.e<(0:Int))||(decide (t.e > (1073741824:Int))||(decide (t.d<(0:Int))||decide (t.d > (4:Int)))) then (10:Int)
 else bif decide (t.l0<(0:Int))||(decide (t.l0 > (1048576:Int))||decide ((0:Int)≥t.d)&&t.l0 != (0:Int)) then (10:Int) else bif decide (t.l1<(0:Int))||(decide (t.l1 > (1048576:Int))||decide ((1:Int)≥t.d)&&t.l1 != (0:Int)) then (10:Int) else bif decide (t.l2<(0:Int))||(decide (t.l2 > (1048576:Int))||decide ((2:Int)≥t.d)&&t.l2 != (0:Int)) then (10:Int) else bif decide (t.l3<(0:Int))||(decide (t.l3 > (1048576:Int))||decide ((3:Int)≥t.d)&&t.l3 != (0:Int)) then (10:Int) else (0:Int)
theorem qqe:q04 Tryz.prog 60 aT dI (fun g=>q0e g) (fun _=>[]):=q0l (Γ:=(PTab.gamz tab0 [] [(68,0,5)])) (Λ:=noΛ) (PTab.okz tab0 [] [(68,0,5)]) q0o 100 default (fun g=>by kernel_rfl) (fun g=>by kernel_rfl)
def q0y (t:T):Dv.T dI:=
 bif decide (t.e<(0:Int))||(decide (t.e > (1073741824:Int))||(decide (t.d<(0:Int))||decide (t.d > (4:Int)))) then (10:Int)
 else bif decide (t.l0<(0:Int))||(decide (t.l0 > (1048576:Int))||decide ((0:Int)≥t.d)&&t.l0 != (0:Int)) then (10:Int) else bif decide (t.l1<(0:Int))||(decide (t.l1 > (1048576:Int))||decide ((1:Int)≥t.d)&&t.l1 != (0:Int)) then (10:Int) else bif decide (t.l2<(0:Int))||(decide (t.l2 > (1048576:Int))||decide ((2:Int)≥t.d)&&t.l2 != (0:Int)) then (10:Int) else bif decide (t.l3<(0:Int))||(decide (t.l3 > (1048576:Int))||decide ((3:Int)≥t.d)&&t.l3 != (0:Int)) then (10:Int) else (0:Int)
theorem qpk:q04 Tryz.prog 75 aT dI (fun g=>q0y g) (fun _=>[]):=q0l (Γ:=(PTab.gamz tab0 [] [(68,0,5)])) (Λ:=noΛ) (PTab.okz tab0 [] [(68,0,5)]) q0o 100 default (fun g=>by kernel_rfl) (fun g=>by kernel_rfl)
def tab2:PTab Tryz.prog:=((((tab0).cons 101 (pconP aS dBool (fun g=>may_F g) (fun _=>[])) (q0d may_ok puB)).cons 110 (pconP aS dI (fun g=>q0x g) (fun _=>[])) (q0d qrb puI)).cons 60 (pconP aT dI (fun g=>q0e g) (fun _=>[])) (q0d qqe puI)).cons 75 (pconP aT dI (fun g=>q0y g) (fun _=>[])) (q0d qpk puI)
end
end Go.Proofs.YthnojkbkojpadaaGreat

namespace Go.Proofs.YthnojkbkojpadaaGreat
open Go.RowKit Go.Sx
theorem wr {x:Int} (h:-9223372036854775808≤x∧x≤9223372036854775807):IntKind.i64.wrap x=x:=by
 have:=IntKind.wrap_i64 x
 omega
def S.Ok (s:S):Prop:=(0≤s.f∧s.f≤4∧0≤s.n∧s.n≤4∧0≤s.k∧s.k≤s.f∧s.k+s.n≤4)∧(0≤s.a∧s.a≤1048576∧(s.k=0→s.a=0)) ∧
  (0≤s.p0∧s.p0≤1048576∧(s.n≤0→s.p0=0))∧(0≤s.p1∧s.p1≤1048576∧(s.n≤1→s.p1=0))∧(0≤s.p2∧s.p2≤1048576∧(s.n≤2→s.p2=0))∧(0≤s.p3∧s.p3≤1048576∧(s.n≤3→s.p3=0))
theorem qsk {c b:Bool}:(bif c then false else b)=true↔c=false∧b=true:=by cases c <;> simp
theorem cond_bf {c b:Bool}:(bif c then b else false)=true↔c=true∧b=true:=by cases c <;> simp
theorem q2u (s:S):may_F s=true↔s.Ok:=by
 unfold may_F S.Ok
 simp only[qsk,cond_bf,Bool.and_eq_true,Bool.or_eq_false_iff,Bool.not_eq_true',Bool.not_eq_false',decide_eq_false_iff_not,decide_eq_true_eq,Bool.and_eq_false_iff,bne_eq_false_iff_eq,beq_eq_false_iff_ne,beq_iff_eq,IntKind.wrap_i64,and_true,ne_eq,true_and]
 omega
theorem cond_20 {c:Bool} {x:Int}:(bif c then (20:Int) else x)=0↔c=false∧x=0:=by cases c <;> simp
theorem cond_10 {c:Bool} {x:Int}:(bif c then (10:Int) else x)=0↔c=false∧x=0:=by cases c <;> simp
theorem qer (s:S):q0x s=0↔s.Ok:=by
 unfold q0x S.Ok
 simp only[cond_20,Bool.and_eq_true,Bool.or_eq_false_iff,Bool.not_eq_true',Bool.not_eq_false',decide_eq_false_iff_not,decide_eq_true_eq,Bool.and_eq_false_iff,bne_eq_false_iff_eq,beq_eq_false_iff_ne,beq_iff_eq,IntKind.wrap_i64,and_true,ne_eq,true_and]
 omega
theorem qra (s:S):q0x s=0∨q0x s=20:=by
 unfold q0x
 repeat' (rw[Bool.cond_eq_ite];split)
 all_goals simp
theorem qjt (s:S):q0x s=bif may_F s then 0 else 20:=by
 cases h:may_F s with
 | true=>exact (qer s).2 ((q2u s).1 h)
 | false=>
  rcases qra s with h1 | h1
  ·rw[(q2u s).2 ((qer s).1 h1)] at h;cases h
  ·exact h1
theorem qpl (t:T):q0y t=q0e t:=rfl
def T.Ok (t:T):Prop:=(0≤t.e∧t.e≤1073741824∧0≤t.d∧t.d≤4) ∧
  (0≤t.l0∧t.l0≤1048576∧(t.d≤0→t.l0=0))∧(0≤t.l1∧t.l1≤1048576∧(t.d≤1→t.l1=0))∧(0≤t.l2∧t.l2≤1048576∧(t.d≤2→t.l2=0))∧(0≤t.l3∧t.l3≤1048576∧(t.d≤3→t.l3=0))
theorem q48 (t:T):q0e t=0↔t.Ok:=by
 unfold q0e T.Ok
 simp only[cond_10,Bool.and_eq_true,Bool.or_eq_false_iff,decide_eq_false_iff_not,Bool.and_eq_false_iff,bne_eq_false_iff_eq,and_true]
 omega
theorem qqd (t:T):q0e t=0∨q0e t=10:=by
 unfold q0e
 repeat' (rw[Bool.cond_eq_ite];split)
 all_goals simp
end Go.Proofs.YthnojkbkojpadaaGreat

namespace Go.Proofs.YthnojkbkojpadaaGreat
noncomputable section
open Go.RowKit Go.Sx
def tab3:PTab Tryz.prog:=tab2
def vi (n:Int):SV:=.v (.int .i64 n)
def ki (n:Int):SV:=.k (.int .i64 n)
def encK (s:S) (k n:Nat):SV:=.agg [vi s.f,ki k,vi s.a,ki n,vi s.p0,vi s.p1,vi s.p2,vi s.p3]
def litS (s:S) (k n:Nat):S:=⟨s.f,k,s.a,n,s.p0,s.p1,s.p2,s.p3⟩
theorem q5g {s:S} {k n:Nat} (h1:s.k=k) (h2:s.n=n):litS s k n=s:=by unfold litS;rw[← h1,← h2]
def vv1:SV→SV
 | .k x=>.v x
 | s=>s
theorem qq9 {s:SV} {n:Nat} {ρ:Rh} {x:Value}:(vv1 s).fit n ρ x↔s.fit n ρ x:=by cases s <;> simp[vv1,SV.fit]
theorem qor {n:Nat} {ρ:Rh}:∀ {xs ys:List SV} {l:List Value},xs.map vv1=ys.map vv1→SV.fits n ρ xs l→SV.fits n ρ ys l
 | [],[],_,_,h=>h
 | x :: xs,y :: ys,l,he,h=>by
  obtain ⟨a,r,rfl,ha,hr⟩:=q05 h
  simp only[List.map_cons,List.cons.injEq] at he
  exact ⟨qq9.1 (he.1▸qq9.2 ha),qor he.2 hr⟩
 | [],_ :: _,_,he,_=>by simp at he
 | _ :: _,[],_,he,_=>by simp at he
theorem qim {s:S} {k n:Nat} (h1:s.k=k) (h2:s.n=n) {m:Nat} {ρ:Rh} {x:Value} (h:(dS.enc s).fit m ρ x):(encK s k n).fit m ρ x:=by
 rw[← q5g h1 h2] at h
 obtain ⟨l,hx,hl⟩:=h
 exact ⟨l,hx,qor (xs:=eS.cells (litS s k n)) rfl hl⟩
theorem qdf {a b:S} {k n k' n':Nat} (h1:a.k=k) (h2:a.n=n) (h3:b.k=k') (h4:b.n=n') {m:Nat} {ρ:Rh} {x:List Value} (h:SV.fits m ρ (aSS.enc (a,b)) x):SV.fits m ρ [encK a k n,encK b k' n'] x:=by
 obtain ⟨y,r,rfl,hy,hr⟩:=q05 h
 obtain ⟨z,r',rfl,hz,hr'⟩:=q05 hr
 exact ⟨qim h1 h2 hy,qim h3 h4 hz,hr'⟩
theorem qks {a:S} {t:T} {k n:Nat} (h1:a.k=k) (h2:a.n=n) {m:Nat} {ρ:Rh} {x:List Value} (h:SV.fits m ρ (aST.enc (a,t)) x):SV.fits m ρ [encK a k n,dT.enc t] x:=by
 obtain ⟨y,r,rfl,hy,hr⟩:=q05 h
 exact ⟨qim h1 h2 hy,hr⟩
end
end Go.Proofs.YthnojkbkojpadaaGreat

namespace Go.Proofs.YthnojkbkojpadaaGreat
noncomputable section
open Go.RowKit Go.Sx
section
def els {α:Type}:Tr α→Tr α
 | .br _ _ b=>b
 | t=>t
def zS:S:=⟨0,0,0,0,0,0,0,0⟩
def zT:T:=⟨0,0,0,0,0,0⟩
def S.p (s:S):List Int:=[s.p0,s.p1,s.p2,s.p3]
def T.l (t:T):List Int:=[t.l0,t.l1,t.l2,t.l3]
def mkS (f k a n:Int) (l:List Int):S:=⟨f,k,a,n,l.getD 0 0,l.getD 1 0,l.getD 2 0,l.getD 3 0⟩
def mkT (e d:Int) (l:List Int):T:=⟨e,d,l.getD 0 0,l.getD 1 0,l.getD 2 0,l.getD 3 0⟩
abbrev w64 (x:Int):Int:=IntKind.i64.wrap x
theorem four {k:Nat} (h:k≤4):k=0∨k=1∨k=2∨k=3∨k=4:=by omega
abbrev g3:Gam:=tab3.gamz [] []
def q7z (k n:Nat) (s:S) (t:T):List Int:=
 match k with
 | 0=>s.p.take n
 | j+1=>(t.l.take j++[w64 (t.l.getD j 0+s.a)])++s.p.take n
def qss (s:S) (t:T) (k n:Nat):Tr (T×Int):=
 .br (!may_F (litS s k n)) (.ret (zT,20)) (.br (q0e t != 0) (.ret (zT,q0e t)) (.br (t.d != s.f) (.ret (zT,11)) (match k with
  | 0=>.ret (mkT t.e (0+n:Nat) (q7z 0 n s t),0)
  | j+1=>.br (decide (w64 (t.l.getD j 0+s.a) > 1048576)) (.ret (zT,12)) (.ret (mkT t.e (j+1+n:Nat) (q7z (j+1) n s t),0)))))
def qnw (s:S) (t:T) (k n:Nat):Tr (T×Int):=
 .br (q0x (litS s k n) != 0) (.ret (zT,q0x (litS s k n))) (.br (q0y t != 0) (.ret (zT,q0y t)) (.br (t.d != s.f) (.ret (zT,11))
  (.br (q0y (mkT t.e (k+n:Nat) (q7z k n s t)) != 0) (.ret (zT,12)) (.ret (mkT t.e (k+n:Nat) (q7z k n s t),0)))))
theorem qq8 (s:S) (t:T) (k n:Nat) (h1:k+n≤4):dTree Tryz.prog g3 noΛ 100 61 [encK s k n,dT.enc t] dTE=qss s t k n:=by
 rcases four (show k≤4 by omega) with rfl | rfl | rfl | rfl | rfl <;> rcases four (show n≤4 by omega) with rfl | rfl | rfl | rfl | rfl <;> first
  | (exfalso;omega)
  | kernel_rfl
theorem qlu (s:S) (t:T) (k n:Nat) (h1:k+n≤4):dTree Tryz.prog g3 noΛ 100 67 [encK s k n,dT.enc t] dTE=qnw s t k n:=by
 rcases four (show k≤4 by omega) with rfl | rfl | rfl | rfl | rfl <;> rcases four (show n≤4 by omega) with rfl | rfl | rfl | rfl | rfl <;> first
  | (exfalso;omega)
  | kernel_rfl
theorem qja (s:S) (t:T):dTree Tryz.prog g3 noΛ 100 61 (aST.enc (s,t)) dTE=.br (!may_F s) (.ret (zT,20)) (els (dTree Tryz.prog g3 noΛ 100 61 (aST.enc (s,t)) dTE)):=by kernel_rfl
theorem qle (s:S) (t:T):els (dTree Tryz.prog g3 noΛ 100 61 (aST.enc (s,t)) dTE)=.br (q0e t != 0) (.ret (zT,q0e t)) (els (els (dTree Tryz.prog g3 noΛ 100 61 (aST.enc (s,t)) dTE))):=by kernel_rfl
theorem qsr (s:S) (t:T):els (els (dTree Tryz.prog g3 noΛ 100 61 (aST.enc (s,t)) dTE))=.br (t.d != s.f) (.ret (zT,11)) (els (els (els (dTree Tryz.prog g3 noΛ 100 61 (aST.enc (s,t)) dTE)))):=by kernel_rfl
theorem qcd (s:S) (t:T):dTree Tryz.prog g3 noΛ 100 67 (aST.enc (s,t)) dTE=.br (q0x s != 0) (.ret (zT,q0x s)) (els (dTree Tryz.prog g3 noΛ 100 67 (aST.enc (s,t)) dTE)):=by kernel_rfl
theorem qes (s:S) (t:T):els (dTree Tryz.prog g3 noΛ 100 67 (aST.enc (s,t)) dTE)=.br (q0y t != 0) (.ret (zT,q0y t)) (els (els (dTree Tryz.prog g3 noΛ 100 67 (aST.enc (s,t)) dTE))):=by kernel_rfl
theorem qps (s:S) (t:T):els (els (dTree Tryz.prog g3 noΛ 100 67 (aST.enc (s,t)) dTE))=.br (t.d != s.f) (.ret (zT,11)) (els (els (els (dTree Tryz.prog g3 noΛ 100 67 (aST.enc (s,t)) dTE)))):=by kernel_rfl
end
end
end Go.Proofs.YthnojkbkojpadaaGreat

namespace Go.Proofs.YthnojkbkojpadaaGreat
noncomputable section
open Go.RowKit Go.Sx
section
theorem p_mem {s:S} (h:s.Ok):∀ x∈s.p,0≤x∧x≤1048576:=by
 unfold S.Ok at h
 intro x hx
 simp only[S.p,List.mem_cons,List.not_mem_nil,or_false] at hx
 rcases hx with rfl | rfl | rfl | rfl <;> omega
theorem p_get {s:S} (h:s.Ok) (i:Nat):0≤s.p.getD i 0∧s.p.getD i 0≤1048576:=by
 by_cases hi:i<s.p.length
 ·rw[List.getD_eq_getElem?_getD,List.getElem?_eq_getElem hi]
  exact p_mem h _ (List.getElem_mem hi)
 ·rw[List.getD_eq_getElem?_getD,List.getElem?_eq_none (by omega)]
  simp
theorem sizes {s:S} (h:s.Ok):s.k=(s.k.toNat:Int)∧s.n=(s.n.toNat:Int)∧s.k.toNat+s.n.toNat≤4:=by
 have:=h.1
 omega
theorem len_p (s:S):s.p.length=4:=rfl
theorem notOr {a b:Bool} (h:(!a||!b)=false):a=true∧b=true:=by cases a <;> cases b <;> simp_all
theorem rc_ne (s:S):(q0x s != 0)=!may_F s:=by
 rw[qjt]
 cases may_F s <;> rfl
def qp7 (k n:Nat) (s:S) (t:T):T×Int:=
 match k with
 | 0=>(mkT t.e (n:Int) (s.p.take n),0)
 | j+1=>bif decide (t.l.getD j 0+s.a > 1048576) then (zT,12) else (mkT t.e ((j+1+n:Nat):Int) ((t.l.take j++[t.l.getD j 0+s.a])++s.p.take n),0)
def q0h (s:S) (t:T):T×Int:=
 bif !may_F s then (zT,20) else bif q0e t != 0 then (zT,q0e t) else bif t.d != s.f then (zT,11) else qp7 s.k.toNat s.n.toNat s t
theorem l_mem {t:T} (h:t.Ok):∀ x∈t.l,0≤x∧x≤1048576:=by
 unfold T.Ok at h
 intro x hx
 simp only[T.l,List.mem_cons,List.not_mem_nil,or_false] at hx
 rcases hx with rfl | rfl | rfl | rfl <;> omega
theorem l_get {t:T} (h:t.Ok) (i:Nat):0≤t.l.getD i 0∧t.l.getD i 0≤1048576:=by
 by_cases hi:i<t.l.length
 ·rw[List.getD_eq_getElem?_getD,List.getElem?_eq_getElem hi]
  exact l_mem h _ (List.getElem_mem hi)
 ·rw[List.getD_eq_getElem?_getD,List.getElem?_eq_none (by omega)]
  simp
theorem len_l (t:T):t.l.length=4:=rfl
theorem okmt {e:Int} {d:Nat} {l:List Int} (hl:l.length=d) (hd:d≤4) (he:0≤e∧e≤1073741824):(mkT e d l).Ok↔∀ x∈l,0≤x∧x≤1048576:=by
 subst hl
 match l,hd with
 | [],_=>simp[mkT,T.Ok];omega
 | [x0],_=>simp[mkT,T.Ok];omega
 | [x0,x1],_=>simp[mkT,T.Ok];omega
 | [x0,x1,x2],_=>simp[mkT,T.Ok];omega
 | [x0,x1,x2,x3],_=>simp[mkT,T.Ok];omega
theorem tc_ne (t:T):(q0e t != 0)=!decide (q0e t=0):=by
 cases h:decide (q0e t=0) <;> simp_all
theorem qe0 {s:S} {t:T} (hs:may_F s=true) (ht:q0e t=0) (he:t.d=s.f):q0h s t=qp7 s.k.toNat s.n.toNat s t:=by
 unfold q0h
 rw[hs,ht,he]
 simp
theorem qv3:q04 Tryz.prog 61 aST dTE (fun g=>q0h g.1 g.2) (fun _=>[]):=by
 refine q2f (Γ:=g3) (Λ:=noΛ) (tab3.okz [] []) q0o 100 fun g _ _=>?_
 obtain ⟨s,t⟩:=g
 show ∃ args,(∀ n ρ x,SV.fits n ρ (aST.enc (s,t)) x→SV.fits n ρ args x)∧(dTree Tryz.prog g3 noΛ 100 61 args dTE).Holds (·=q0h s t)
 cases hs:may_F s with
 | false=>
  refine ⟨_,fun _ _ _ h=>h,?_⟩
  rw[qja,hs]
  generalize els (dTree Tryz.prog g3 noΛ 100 61 (aST.enc (s,t)) dTE)=r
  refine ⟨fun _=>?_,fun hc=>(by cases hc)⟩
  show (zT,(20:Int))=q0h s t
  unfold q0h;rw[hs];rfl
 | true=>
  by_cases ht:q0e t=0
  ·by_cases he:t.d=s.f
   ·have os:=(q2u s).1 hs
    have ot:=(q48 t).1 ht
    obtain ⟨ks,ns,h4⟩:=sizes os
    refine ⟨[encK s s.k.toNat s.n.toNat,dT.enc t],fun _ _ _ h=>qks ks ns h,?_⟩
    rw[qq8 s t _ _ h4,qe0 hs ht he]
    unfold qss
    rw[q5g ks ns,hs,ht,he]
    refine ⟨fun hc=>(by cases hc),fun _=>⟨fun hc=>(by cases hc),fun _=>⟨fun hc=>(by simp at hc),fun _=>?_⟩⟩⟩
    have ga:=os.2.1
    generalize s.k.toNat=k at h4 ⊢
    cases k with
    | zero=>
     show (mkT t.e ((0+s.n.toNat:Nat):Int) (s.p.take s.n.toNat),(0:Int))=_
     rw[Nat.zero_add];rfl
    | succ j=>
     have hl:=l_get ot j
     have hw:w64 (t.l.getD j 0+s.a)=t.l.getD j 0+s.a:=wr (by omega)
     simp only[qp7,q7z,hw]
     exact ⟨fun h=>by rw[h];rfl,fun h=>by rw[h];rfl⟩
   ·refine ⟨_,fun _ _ _ h=>h,?_⟩
    rw[qja,hs]
    refine ⟨fun hc=>(by cases hc),fun _=>?_⟩
    rw[qle,ht]
    refine ⟨fun hc=>(by cases hc),fun _=>?_⟩
    rw[qsr]
    generalize els (els (els (dTree Tryz.prog g3 noΛ 100 61 (aST.enc (s,t)) dTE)))=r
    refine ⟨fun _=>?_,fun hc=>absurd (bne_eq_false_iff_eq.1 hc) he⟩
    show (zT,(11:Int))=q0h s t
    unfold q0h;rw[hs,ht,show (t.d != s.f)=true by simpa using he];rfl
  ·refine ⟨_,fun _ _ _ h=>h,?_⟩
   rw[qja,hs]
   refine ⟨fun hc=>(by cases hc),fun _=>?_⟩
   rw[qle]
   generalize els (els (dTree Tryz.prog g3 noΛ 100 61 (aST.enc (s,t)) dTE))=r
   refine ⟨fun hc=>?_,fun hc=>absurd (bne_eq_false_iff_eq.1 hc) ht⟩
   show (zT,q0e t)=q0h s t
   unfold q0h;rw[hs,hc];rfl
theorem rt_ne (t:T):(q0y t != 0)=(q0e t != 0):=rfl
theorem qre:q04 Tryz.prog 67 aST dTE (fun g=>q0h g.1 g.2) (fun _=>[]):=by
 refine q2f (Γ:=g3) (Λ:=noΛ) (tab3.okz [] []) q0o 100 fun g _ _=>?_
 obtain ⟨s,t⟩:=g
 show ∃ args,(∀ n ρ x,SV.fits n ρ (aST.enc (s,t)) x→SV.fits n ρ args x)∧(dTree Tryz.prog g3 noΛ 100 67 args dTE).Holds (·=q0h s t)
 cases hs:may_F s with
 | false=>
  refine ⟨_,fun _ _ _ h=>h,?_⟩
  rw[qcd,rc_ne,hs,qjt,hs]
  generalize els (dTree Tryz.prog g3 noΛ 100 67 (aST.enc (s,t)) dTE)=r
  refine ⟨fun _=>?_,fun hc=>(by cases hc)⟩
  show (zT,(20:Int))=q0h s t
  unfold q0h;rw[hs];rfl
 | true=>
  by_cases ht:q0e t=0
  ·by_cases he:t.d=s.f
   ·have os:=(q2u s).1 hs
    have ot:=(q48 t).1 ht
    obtain ⟨ks,ns,h4⟩:=sizes os
    refine ⟨[encK s s.k.toNat s.n.toNat,dT.enc t],fun _ _ _ h=>qks ks ns h,?_⟩
    rw[qlu s t _ _ h4,qe0 hs ht he]
    unfold qnw
    rw[q5g ks ns,rc_ne,hs,rt_ne,ht,he]
    refine ⟨fun hc=>(by cases hc),fun _=>⟨fun hc=>(by cases hc),fun _=>⟨fun hc=>(by simp at hc),fun _=>?_⟩⟩⟩
    have ga:=os.2.1
    have pm:=p_mem os
    have lm:=l_mem ot
    have te:=ot.1
    generalize s.k.toNat=k at h4 ⊢
    rw[rt_ne,tc_ne]
    cases k with
    | zero=>
     rw[Nat.zero_add]
     have hok:=okmt (e:=t.e) (d:=s.n.toNat) (l:=q7z 0 s.n.toNat s t) (by simp only[q7z,List.length_take,len_p];omega) (by omega) (by omega)
     rw[(q48 _).2 (hok.2 fun x hx=>pm x (List.mem_of_mem_take hx))]
     exact ⟨fun h=>(by simp at h),fun _=>rfl⟩
    | succ j=>
     have hl:=l_get ot j
     have hw:w64 (t.l.getD j 0+s.a)=t.l.getD j 0+s.a:=wr (by omega)
     have hok:=okmt (e:=t.e) (d:=j+1+s.n.toNat) (l:=q7z (j+1) s.n.toNat s t) (by simp only[q7z,List.length_append,List.length_take,len_p,len_l,List.length_cons,List.length_nil];omega) (by omega) (by omega)
     simp only[q7z,hw] at hok ⊢
     simp only[qp7]
     by_cases hx:t.l.getD j 0+s.a > 1048576
     ·have hno:¬ q0e (mkT t.e ((j+1+s.n.toNat:Nat):Int) ((t.l.take j++[t.l.getD j 0+s.a])++s.p.take s.n.toNat))=0:=fun h=>by
       have:=hok.1 ((q48 _).1 h) _ (List.mem_append_left _ (List.mem_append_right _ (List.mem_singleton.2 rfl)))
       omega
      rw[decide_eq_false hno,decide_eq_true hx]
      exact ⟨fun _=>rfl,fun h=>(by cases h)⟩
     ·rw[(q48 _).2 (hok.2 fun x hx'=>by
       rcases List.mem_append.1 hx' with h | h
       ·rcases List.mem_append.1 h with h | h
        ·exact lm x (List.mem_of_mem_take h)
        ·rw[List.mem_singleton.1 h];omega
       ·exact pm x (List.mem_of_mem_take h)),decide_eq_false hx]
      exact ⟨fun h=>(by simp at h),fun _=>rfl⟩
   ·refine ⟨_,fun _ _ _ h=>h,?_⟩
    rw[qcd,rc_ne,hs]
    refine ⟨fun hc=>(by cases hc),fun _=>?_⟩
    rw[qes,rt_ne,ht]
    refine ⟨fun hc=>(by cases hc),fun _=>?_⟩
    rw[qps]
    generalize els (els (els (dTree Tryz.prog g3 noΛ 100 67 (aST.enc (s,t)) dTE)))=r
    refine ⟨fun _=>?_,fun hc=>absurd (bne_eq_false_iff_eq.1 hc) he⟩
    show (zT,(11:Int))=q0h s t
    unfold q0h;rw[hs,ht,show (t.d != s.f)=true by simpa using he];rfl
  ·refine ⟨_,fun _ _ _ h=>h,?_⟩
   rw[qcd,rc_ne,hs]
   refine ⟨fun hc=>(by cases hc),fun _=>?_⟩
   rw[qes,rt_ne]
   generalize els (els (dTree Tryz.prog g3 noΛ 100 67 (aST.enc (s,t)) dTE))=r
   refine ⟨fun hc=>?_,fun hc=>absurd (bne_eq_false_iff_eq.1 hc) ht⟩
   show (zT,q0y t)=q0h s t
   rw[qpl]
   unfold q0h;rw[hs,hc];rfl
def tab4:PTab Tryz.prog:=(tab3.cons 61 (pconP aST dTE (fun g=>q0h g.1 g.2) (fun _=>[])) (q0d qv3 puTE)).cons 67 (pconP aST dTE (fun g=>q0h g.1 g.2) (fun _=>[])) (q0d qre puTE)
end
end
end Go.Proofs.YthnojkbkojpadaaGreat

namespace Go.Proofs.YthnojkbkojpadaaGreat
open Go.RowKit Go.Sx
structure Place where
 node:Int
 port:Int
deriving DecidableEq,Inhabited
abbrev II:=Int×Int
def Place.ofP:II→Place:=fun (a,b)=>⟨a,b⟩
def Place.toP (p:Place):II:=(p.node,p.port)
def eP:El Place:=.iso (.pair eI eI) Place.ofP Place.toP (fun _=>rfl) (fun _=>rfl)
structure Spot where
 p:Place
 d:Int
deriving DecidableEq,Inhabited
abbrev PI:=Place×Int
def Spot.ofP:PI→Spot:=fun (a,b)=>⟨a,b⟩
def Spot.toP (s:Spot):PI:=(s.p,s.d)
def eSp:El Spot:=.iso (.pair eP eI) Spot.ofP Spot.toP (fun _=>rfl) (fun _=>rfl)
structure Edge where
 fr:Place
 to:Place
 s:S
deriving DecidableEq,Inhabited
abbrev PPS:=Place×Place×S
def Edge.ofP:PPS→Edge:=fun (a,b,c)=>⟨a,b,c⟩
def Edge.toP (x:Edge):PPS:=(x.fr,x.to,x.s)
structure Path where
 fr:Place
 to:Place
 ss:List S
deriving DecidableEq,Inhabited
abbrev PPL:=Place×Place×List S
def Path.ofP:PPL→Path:=fun (a,b,c)=>⟨a,b,c⟩
def Path.toP (x:Path):PPL:=(x.fr,x.to,x.ss)
def eLS:El (List S):=eList eS
def ePa:El Path:=.iso (.pair eP (.pair eP eLS)) Path.ofP Path.toP (fun _=>rfl) (fun _=>rfl)
structure q0j where
 p:Place
 t:T
 n:Int
deriving DecidableEq,Inhabited
abbrev PTI:=Place×T×Int
def q0j.ofP:PTI→q0j:=fun (a,b,c)=>⟨a,b,c⟩
def q0j.toP (x:q0j):PTI:=(x.p,x.t,x.n)
def eC:El q0j:=.iso (.pair eP (.pair eT eI)) q0j.ofP q0j.toP (fun _=>rfl) (fun _=>rfl)
structure Ask where
 p:Place
 q:Place
 t:T
 u:T
 cs:List q0j
deriving DecidableEq,Inhabited
abbrev PPTTL:=Place×Place×T×T×List q0j
def Ask.ofP:PPTTL→Ask:=fun (a,b,c,d,e)=>⟨a,b,c,d,e⟩
def Ask.toP (x:Ask):PPTTL:=(x.p,x.q,x.t,x.u,x.cs)
def eLC:El (List q0j):=eList eC
def eA:El Ask:=.iso (.pair eP (.pair eP (.pair eT (.pair eT eLC)))) Ask.ofP Ask.toP (fun _=>rfl) (fun _=>rfl)
abbrev dP:Dv Place:=.agg eP
abbrev dPa:Dv Path:=.agg ePa
abbrev dLP:Dv (List Path):=.list ePa
abbrev dLSp:Dv (List Spot):=.list eSp
abbrev dLC:Dv (List q0j):=.list eC
abbrev dLS:Dv (List S):=.list eS
abbrev aPP:DA (Place×Place):=.cons dP (.one dP)
abbrev aPaPa:DA (Path×Path):=.cons dPa (.one dPa)
end Go.Proofs.YthnojkbkojpadaaGreat

namespace Go.Proofs.YthnojkbkojpadaaGreat
open Go.RowKit Go.Sx
def W1 (n:Int):Prop:=(Lit.int .i64 n).wf=true
def W4 (a:I4):Prop:=W1 a.1∧W1 a.2.1∧W1 a.2.2.1∧W1 a.2.2.2
def W6 (a:I6):Prop:=W1 a.1∧W1 a.2.1∧W4 a.2.2
def W8 (a:I8):Prop:=W1 a.1∧W1 a.2.1∧W1 a.2.2.1∧W1 a.2.2.2.1∧W4 a.2.2.2.2
def S.W (s:S):Prop:=W8 s.toP
def T.W (t:T):Prop:=W6 t.toP
def WII (a:II):Prop:=W1 a.1∧W1 a.2
def Place.W (p:Place):Prop:=WII p.toP
def WLS (l:List S):Prop:=∀ s∈l,S.W s
def WPPL (a:PPL):Prop:=Place.W a.1∧Place.W a.2.1∧WLS a.2.2
def Path.W (p:Path):Prop:=WPPL p.toP
def WPTI (a:PTI):Prop:=Place.W a.1∧T.W a.2.1∧W1 a.2.2
def q0j.W (p:q0j):Prop:=WPTI p.toP
def WLC (l:List q0j):Prop:=∀ s∈l,q0j.W s
def WAsk (a:PPTTL):Prop:=Place.W a.1∧Place.W a.2.1∧T.W a.2.2.1∧T.W a.2.2.2.1∧WLC a.2.2.2.2
def Ask.W (p:Ask):Prop:=WAsk p.toP
theorem rd2:Rd Tryz.prog 2 eI W1:=rd_int Tryz.underlying2
theorem rd3:Rd Tryz.prog 3 eI W1:=rd_int Tryz.underlying3
theorem rdP:Rd Tryz.prog 24 eP Place.W:=qeq (Q:=WII) (q4w (ts:=[3,3]) Tryz.underlying24 rfl (by kernel_rfl) (q1q rd3 (q82 rd3))) _ _ _ _
theorem rd4:Rd Tryz.prog 40 e4 W4:=rd_array (ts:=[2,2,2,2]) Tryz.underlying40 rfl (by kernel_rfl) (q1q rd2 (q1q rd2 (q1q rd2 (q82 rd2))))
theorem rdS:Rd Tryz.prog 42 eS S.W:=qeq (Q:=W8) (q4w (ts:=[3,3,2,3,40]) Tryz.underlying42 rfl (by kernel_rfl) (q1q rd3 (q1q rd3 (q1q rd2 (q1q rd3 (q82 rd4)))))) _ _ _ _
theorem rdLS:Rd Tryz.prog 39 eLS WLS:=qnv Tryz.underlying39 (by kernel_rfl) (by decide) rdS
theorem rdPa:Rd Tryz.prog 105 ePa Path.W:=qeq (Q:=WPPL) (q4w (ts:=[24,24,39]) Tryz.underlying105 rfl (by kernel_rfl) (q1q rdP (q1q rdP (q82 rdLS)))) _ _ _ _
theorem rdvP:RdV Tryz.prog 24 dP Place.W:=qpq Tryz.underlying24 rdP
theorem rdvLP:RdV Tryz.prog 22 dLP (fun l=>∀ s∈l,Path.W s):=rdv_slice Tryz.underlying22 (by kernel_rfl) (by decide) rdPa
theorem Tryz.own:ownKnob Tryz.prog.godebug=none:=by kernel_rfl
theorem Tryz.laidOut:laidOutB Tryz.prog=true:=by kernel_rfl
end Go.Proofs.YthnojkbkojpadaaGreat

namespace Go.Proofs.YthnojkbkojpadaaGreat
noncomputable section
open Go.RowKit Go.Sx
set_option linter.unusedVariables false
def q07 (a:Int) (b:Int):Dv.T dI:=
 bif a != a then bif b != b then (0:Int) else (-1:Int)
 else bif b != b then (1:Int) else bif decide (a<b) then (-1:Int) else bif decide (a > b) then (1:Int) else (0:Int)
theorem quw:q04 Tryz.prog 139 aII dI (fun g=>q07 g.1 g.2) (fun _=>[]):=q0l (Γ:=(PTab.gamz tab4 [] [])) (Λ:=noΛ) (PTab.okz tab4 [] []) q0o 100 default (fun g=>by kernel_rfl) (fun g=>by kernel_rfl)
def q0u (a:Int) (b:Int):Dv.T dI:=
 bif a != a then bif b != b then (0:Int) else (-1:Int)
 else bif b != b then (1:Int) else bif decide (a<b) then (-1:Int) else bif decide (a > b) then (1:Int) else (0:Int)
theorem cmpi_ok:q04 Tryz.prog 140 aII dI (fun g=>q0u g.1 g.2) (fun _=>[]):=q0l (Γ:=(PTab.gamz tab4 [] [])) (Λ:=noΛ) (PTab.okz tab4 [] []) q0o 100 default (fun g=>by kernel_rfl) (fun g=>by kernel_rfl)
def tabK:PTab Tryz.prog:=((tab4).cons 139 (pconP aII dI (fun g=>q07 g.1 g.2) (fun _=>[])) (q0d quw puI)).cons 140 (pconP aII dI (fun g=>q0u g.1 g.2) (fun _=>[])) (q0d cmpi_ok puI)
end
end Go.Proofs.YthnojkbkojpadaaGreat

namespace Go.Proofs.YthnojkbkojpadaaGreat
noncomputable section
open Go.RowKit Go.Sx
set_option linter.unusedVariables false
def q0k (a:T) (b:T):Dv.T dBool:=
 bif q0e a != (0:Int)||(q0e b != (0:Int)||(a.d != b.d||decide (a.e > b.e))) then false
 else bif decide (a.l0 > b.l0) then false else bif decide (a.l1 > b.l1) then false else bif decide (a.l2 > b.l2) then false else bif decide (a.l3 > b.l3) then false else true
theorem qz1:q04 Tryz.prog 66 aTT dBool (fun g=>q0k g.1 g.2) (fun _=>[]):=q0l (Γ:=(PTab.gamz tabK [] [(68,4,5)])) (Λ:=noΛ) (PTab.okz tabK [] [(68,4,5)]) q0o 100 default (fun g=>by kernel_rfl) (fun g=>by kernel_rfl)
def q2a (a:T) (b:T):Dv.T dBool:=
 bif q0y a != (0:Int)||(q0y b != (0:Int)||(a.d != b.d||decide (a.e > b.e))) then false
 else bif decide (a.l0 > b.l0) then false else bif decide (a.l1 > b.l1) then false else bif decide (a.l2 > b.l2) then false else bif decide (a.l3 > b.l3) then false else true
theorem qt5:q04 Tryz.prog 68 aTT dBool (fun g=>q2a g.1 g.2) (fun _=>[]):=q0l (Γ:=(PTab.gamz tabK [] [(68,4,5)])) (Λ:=noΛ) (PTab.okz tabK [] [(68,4,5)]) q0o 100 default (fun g=>by kernel_rfl) (fun g=>by kernel_rfl)
def q19 (a:T) (b:T):Dv.T dI:=
 bif conj ([a.l0==b.l0]++([a.l1==b.l1]++([a.l2==b.l2]++([a.l3==b.l3]++[])))) then bif q07 a.e b.e != (0:Int) then q07 a.e b.e else bif q0u a.d b.d != (0:Int) then q0u a.d b.d else (0:Int)
 else bif (bif (bif (bif (bif q07 a.e b.e != (0:Int) then q07 a.e b.e else bif q0u a.d b.d != (0:Int) then q0u a.d b.d else (0:Int)) != (0:Int) then bif q07 a.e b.e != (0:Int) then q07 a.e b.e else bif q0u a.d b.d != (0:Int) then q0u a.d b.d else (0:Int) else bif q07 a.l0 b.l0 != (0:Int) then q07 a.l0 b.l0 else (0:Int)) != (0:Int) then bif (bif q07 a.e b.e != (0:Int) then q07 a.e b.e else bif q0u a.d b.d != (0:Int) then q0u a.d b.d else (0:Int)) != (0:Int) then bif q07 a.e b.e != (0:Int) then q07 a.e b.e else bif q0u a.d b.d != (0:Int) then q0u a.d b.d else (0:Int) else bif q07 a.l0 b.l0 != (0:Int) then q07 a.l0 b.l0 else (0:Int) else bif q07 a.l1 b.l1 != (0:Int) then q07 a.l1 b.l1 else (0:Int)) != (0:Int) then bif (bif (bif q07 a.e b.e != (0:Int) then q07 a.e b.e else bif q0u a.d b.d != (0:Int) then q0u a.d b.d else (0:Int)) != (0:Int) then bif q07 a.e b.e != (0:Int) then q07 a.e b.e else bif q0u a.d b.d != (0:Int) then q0u a.d b.d else (0:Int) else bif q07 a.l0 b.l0 != (0:Int) then q07 a.l0 b.l0 else (0:Int)) != (0:Int) then bif (bif q07 a.e b.e != (0:Int) then q07 a.e b.e else bif q0u a.d b.d != (0:Int) then q0u a.d b.d else (0:Int)) != (0:Int) then bif q07 a.e b.e != (0:Int) then q07 a.e b.e else bif q0u a.d b.d != (0:Int) then q0u a.d b.d else (0:Int) else bif q07 a.l0 b.l0 != (0:Int) then q07 a.l0 b.l0 else (0:Int) else bif q07 a.l1 b.l1 != (0:Int) then q07 a.l1 b.l1 else (0:Int) else bif q07 a.l2 b.l2 != (0:Int) then q07 a.l2 b.l2 else (0:Int)) != (0:Int) then bif (bif (bif (bif q07 a.e b.e != (0:Int) then q07 a.e b.e else bif q0u a.d b.d != (0:Int) then q0u a.d b.d else (0:Int)) != (0:Int) then bif q07 a.e b.e != (0:Int) then q07 a.e b.e else bif q0u a.d b.d != (0:Int) then q0u a.d b.d else (0:Int) else bif q07 a.l0 b.l0 != (0:Int) then q07 a.l0 b.l0 else (0:Int)) != (0:Int) then bif (bif q07 a.e b.e != (0:Int) then q07 a.e b.e else bif q0u a.d b.d != (0:Int) then q0u a.d b.d else (0:Int)) != (0:Int) then bif q07 a.e b.e != (0:Int) then q07 a.e b.e else bif q0u a.d b.d != (0:Int) then q0u a.d b.d else (0:Int) else bif q07 a.l0 b.l0 != (0:Int) then q07 a.l0 b.l0 else (0:Int) else bif q07 a.l1 b.l1 != (0:Int) then q07 a.l1 b.l1 else (0:Int)) != (0:Int) then bif (bif (bif q07 a.e b.e != (0:Int) then q07 a.e b.e else bif q0u a.d b.d != (0:Int) then q0u a.d b.d else (0:Int)) != (0:Int) then bif q07 a.e b.e != (0:Int) then q07 a.e b.e else bif q0u a.d b.d != (0:Int) then q0u a.d b.d else (0:Int) else bif q07 a.l0 b.l0 != (0:Int) then q07 a.l0 b.l0 else (0:Int)) != (0:Int) then bif (bif q07 a.e b.e != (0:Int) then q07 a.e b.e else bif q0u a.d b.d != (0:Int) then q0u a.d b.d else (0:Int)) != (0:Int) then bif q07 a.e b.e != (0:Int) then q07 a.e b.e else bif q0u a.d b.d != (0:Int) then q0u a.d b.d else (0:Int) else bif q07 a.l0 b.l0 != (0:Int) then q07 a.l0 b.l0 else (0:Int) else bif q07 a.l1 b.l1 != (0:Int) then q07 a.l1 b.l1 else (0:Int) else bif q07 a.l2 b.l2 != (0:Int) then q07 a.l2 b.l2 else (0:Int) else bif q07 a.l3 b.l3 != (0:Int) then q07 a.l3 b.l3 else (0:Int)
theorem qqc:q04 Tryz.prog 105 aTT dI (fun g=>q19 g.1 g.2) (fun _=>[]):=q0l (Γ:=(PTab.gamz tabK [] [(68,4,5)])) (Λ:=noΛ) (PTab.okz tabK [] [(68,4,5)]) q0o 100 default (fun g=>by kernel_rfl) (fun g=>by kernel_rfl)
def q68 (a:T) (b:T):Dv.T dI:=
 bif decide (a.e<b.e) then (-1:Int)
 else bif decide (a.e > b.e) then (1:Int) else bif decide (a.d<b.d) then (-1:Int) else bif decide (a.d > b.d) then (1:Int) else bif (bif decide (a.l0<b.l0) then (-1:Int) else bif decide (a.l0 > b.l0) then (1:Int) else (0:Int)) != (0:Int) then bif decide (a.l0<b.l0) then (-1:Int) else bif decide (a.l0 > b.l0) then (1:Int) else (0:Int) else bif (bif decide (a.l1<b.l1) then (-1:Int) else bif decide (a.l1 > b.l1) then (1:Int) else (0:Int)) != (0:Int) then bif decide (a.l1<b.l1) then (-1:Int) else bif decide (a.l1 > b.l1) then (1:Int) else (0:Int) else bif (bif decide (a.l2<b.l2) then (-1:Int) else bif decide (a.l2 > b.l2) then (1:Int) else (0:Int)) != (0:Int) then bif decide (a.l2<b.l2) then (-1:Int) else bif decide (a.l2 > b.l2) then (1:Int) else (0:Int) else bif (bif decide (a.l3<b.l3) then (-1:Int) else bif decide (a.l3 > b.l3) then (1:Int) else (0:Int)) != (0:Int) then bif decide (a.l3<b.l3) then (-1:Int) else bif decide (a.l3 > b.l3) then (1:Int) else (0:Int) else (0:Int)
theorem qt7:q04 Tryz.prog 149 aTT dI (fun g=>q68 g.1 g.2) (fun _=>[]):=q0l (Γ:=(PTab.gamz tabK [] [(68,4,5)])) (Λ:=noΛ) (PTab.okz tabK [] [(68,4,5)]) q0o 100 default (fun g=>by kernel_rfl) (fun g=>by kernel_rfl)
def tabL:PTab Tryz.prog:=((((tabK).cons 66 (pconP aTT dBool (fun g=>q0k g.1 g.2) (fun _=>[])) (q0d qz1 puB)).cons 68 (pconP aTT dBool (fun g=>q2a g.1 g.2) (fun _=>[])) (q0d qt5 puB)).cons 105 (pconP aTT dI (fun g=>q19 g.1 g.2) (fun _=>[])) (q0d qqc puI)).cons 149 (pconP aTT dI (fun g=>q68 g.1 g.2) (fun _=>[])) (q0d qt7 puI)
end
end Go.Proofs.YthnojkbkojpadaaGreat

namespace Go.Proofs.YthnojkbkojpadaaGreat
open Go.RowKit Go.Sx Go.Lp
def keyT (a:T):List Int:=[a.e,a.d,a.l0,a.l1,a.l2,a.l3]
theorem qi1 (a b:T) (h:keyT a=keyT b):a=b:=by
 obtain ⟨f,k,p0,p1,p2,p3⟩:=a
 obtain ⟨f',k',p0',p1',p2',p3'⟩:=b
 simp only[keyT,List.cons.injEq,and_true] at h
 obtain ⟨rfl,rfl,rfl,rfl,rfl,rfl⟩:=h
 rfl
theorem cmp3 (x y:Int):(x<y∧q07 x y=-1)∨(y<x∧q07 x y=1)∨(x=y∧q07 x y=0):=by
 unfold q07
 by_cases h:x<y
 ·left;simp[h]
 ·by_cases h2:y<x
  ·right;left;simp[h,h2]
  ·right;right
   refine ⟨by omega,?_⟩
   simp[h,h2]
theorem qsl (x y:Int):q0u x y=q07 x y:=rfl
theorem or_self {x:Int}:(bif x != 0 then x else 0)=x:=by
 by_cases h:x=0
 ·subst h;rfl
 ·have:(x != 0)=true:=by simpa using h
  rw[this];rfl
theorem qh2 (a b:T):q19 a b=lexC (keyT a) (keyT b):=by
 unfold q19 keyT
 simp only[qsl,lexC,or_self,conj,List.append_nil,List.cons_append,List.nil_append]
 rcases cmp3 a.e b.e with ⟨h,e⟩ | ⟨h,e⟩ | ⟨h,e⟩ <;> simp only[e]
 ·simp[h]
 ·have:¬ a.e<b.e:=by omega
  simp[h,this]
 rw[if_neg (by omega),if_neg (by omega)]
 rcases cmp3 a.d b.d with ⟨h,e⟩ | ⟨h,e⟩ | ⟨h,e⟩ <;> simp only[e]
 ·simp[h]
 ·have:¬ a.d<b.d:=by omega
  simp[h,this]
 rw[if_neg (by omega),if_neg (by omega)]
 rcases cmp3 a.l0 b.l0 with ⟨h,e⟩ | ⟨h,e⟩ | ⟨h,e⟩ <;> simp only[e]
 ·have h2:(a.l0==b.l0)=false:=beq_eq_false_iff_ne.2 (by omega)
  simp[h,h2]
 ·have h2:¬ a.l0<b.l0:=by omega
  have h3:(a.l0==b.l0)=false:=beq_eq_false_iff_ne.2 (by omega)
  simp[h,h2,h3]
 rw[if_neg (by omega),if_neg (by omega)]
 rcases cmp3 a.l1 b.l1 with ⟨h1,e⟩ | ⟨h1,e⟩ | ⟨h1,e⟩ <;> simp only[e]
 ·have h2:(a.l1==b.l1)=false:=beq_eq_false_iff_ne.2 (by omega)
  simp[h,h1,h2]
 ·have h2:¬ a.l1<b.l1:=by omega
  have h3:(a.l1==b.l1)=false:=beq_eq_false_iff_ne.2 (by omega)
  simp[h,h1,h2,h3]
 rw[if_neg (by omega),if_neg (by omega)]
 rcases cmp3 a.l2 b.l2 with ⟨h1,e⟩ | ⟨h1,e⟩ | ⟨h1,e⟩ <;> simp only[e]
 ·have h2:(a.l2==b.l2)=false:=beq_eq_false_iff_ne.2 (by omega)
  simp[h,h1,h2]
 ·have h2:¬ a.l2<b.l2:=by omega
  have h3:(a.l2==b.l2)=false:=beq_eq_false_iff_ne.2 (by omega)
  simp[h,h1,h2,h3]
 rw[if_neg (by omega),if_neg (by omega)]
 rcases cmp3 a.l3 b.l3 with ⟨h1,e⟩ | ⟨h1,e⟩ | ⟨h1,e⟩ <;> simp only[e]
 ·have h2:(a.l3==b.l3)=false:=beq_eq_false_iff_ne.2 (by omega)
  simp[h,h1,h2]
 ·have h2:¬ a.l3<b.l3:=by omega
  have h3:(a.l3==b.l3)=false:=beq_eq_false_iff_ne.2 (by omega)
  simp[h,h1,h2,h3]
 rw[if_neg (by omega),if_neg (by omega)]
 simp
theorem sg (x y:Int):(bif decide (x<y) then (-1:Int) else bif decide (x > y) then (1:Int) else (0:Int))=q07 x y:=by
 unfold q07
 simp
theorem qqv (a b:T):q68 a b=lexC (keyT a) (keyT b):=by
 unfold q68 keyT
 simp only[sg,lexC,or_self]
 by_cases h:a.e<b.e
 ·simp[h]
 by_cases h2:b.e<a.e
 ·simp[h,h2]
 by_cases h3:a.d<b.d
 ·simp[h,h2,h3]
 by_cases h4:b.d<a.d
 ·simp[h,h2,h3,h4]
 simp only[h,h2,h3,h4,if_false,decide_false,cond_false,gt_iff_lt]
 rcases cmp3 a.l0 b.l0 with ⟨h1,e⟩ | ⟨h1,e⟩ | ⟨h1,e⟩ <;> simp only[e]
 ·simp[h1]
 ·have:¬ a.l0<b.l0:=by omega
  simp[h1,this]
 rw[if_neg (by omega),if_neg (by omega)]
 rcases cmp3 a.l1 b.l1 with ⟨h1,e⟩ | ⟨h1,e⟩ | ⟨h1,e⟩ <;> simp only[e]
 ·simp[h1]
 ·have:¬ a.l1<b.l1:=by omega
  simp[h1,this]
 rw[if_neg (by omega),if_neg (by omega)]
 rcases cmp3 a.l2 b.l2 with ⟨h1,e⟩ | ⟨h1,e⟩ | ⟨h1,e⟩ <;> simp only[e]
 ·simp[h1]
 ·have:¬ a.l2<b.l2:=by omega
  simp[h1,this]
 rw[if_neg (by omega),if_neg (by omega)]
 rcases cmp3 a.l3 b.l3 with ⟨h1,e⟩ | ⟨h1,e⟩ | ⟨h1,e⟩ <;> simp only[e]
 ·simp[h1]
 ·have:¬ a.l3<b.l3:=by omega
  simp[h1,this]
 rw[if_neg (by omega),if_neg (by omega)]
 rfl
theorem qt8 (a b:T):q68 a b=q19 a b:=by rw[qqv,qh2]
theorem qt6 (a b:T):q2a a b=q0k a b:=rfl
theorem toT:TO fun a b=>q19 a b:=to_lex keyT qi1 fun a b=>by rw[qh2]
theorem qh0 (a b:T):q0k a b=true↔a.Ok∧b.Ok∧a.d=b.d∧a.e≤b.e∧a.l0≤b.l0∧a.l1≤b.l1∧a.l2≤b.l2∧a.l3≤b.l3:=by
 unfold q0k
 simp only[qsk,Bool.or_eq_false_iff,bne_eq_false_iff_eq,q48,decide_eq_false_iff_not,gt_iff_lt,Int.not_lt,and_true]
 constructor
 ·rintro ⟨⟨h1,h2,h3,h4⟩,h5,h6,h7,h8⟩
  exact ⟨h1,h2,h3,h4,h5,h6,h7,h8⟩
 ·rintro ⟨h1,h2,h3,h4,h5,h6,h7,h8⟩
  exact ⟨⟨h1,h2,h3,h4⟩,h5,h6,h7,h8⟩
theorem poT:PO (fun a b=>q19 a b) q0k where
 trans x y z h1 h2:=by
  rw[qh0] at *
  obtain ⟨a1,_,a3,a4,a5,a6,a7,a8⟩:=h1
  obtain ⟨_,b2,b3,b4,b5,b6,b7,b8⟩:=h2
  exact ⟨a1,b2,by omega,by omega,by omega,by omega,by omega,by omega⟩
 anti x y h1 h2:=by
  rw[qh0] at *
  obtain ⟨_,_,a3,a4,a5,a6,a7,a8⟩:=h1
  obtain ⟨_,_,b3,b4,b5,b6,b7,b8⟩:=h2
  apply qi1
  simp only[keyT,List.cons.injEq,and_true]
  omega
 ext x y h hn:=by
  rw[qh0] at h
  obtain ⟨_,_,a3,a4,a5,a6,a7,a8⟩:=h
  show q19 x y<0
  rw[qh2]
  have hk:keyT x≠keyT y:=fun hk=>hn (qi1 _ _ hk)
  have step:∀ (p q:Int) (r t:List Int),p≤q→(p=q→lexC r t<0)→lexC (p :: r) (q :: t)<0:=fun p q r t h1 h2=>by
   unfold lexC
   by_cases hpq:p<q
   ·rw[if_pos hpq];decide
   ·rw[if_neg hpq,if_neg (by omega)];exact h2 (by omega)
  refine step _ _ _ _ a4 fun e1=>step _ _ _ _ (Int.le_of_eq a3) fun _=>step _ _ _ _ a5 fun e2=>step _ _ _ _ a6 fun e3=>step _ _ _ _ a7 fun e4=>step _ _ _ _ a8 fun e5=>?_
  exact absurd (by simp only[keyT,e1,a3,e2,e3,e4,e5]) hk
end Go.Proofs.YthnojkbkojpadaaGreat

namespace Go.Proofs.YthnojkbkojpadaaGreat
noncomputable section
open Go.RowKit Go.Sx
set_option linter.unusedVariables false
def q5p (a:S):Dv.T dI:=
 bif !may_F a then (20:Int) else (0:Int)
theorem qv1:q04 Tryz.prog 122 aS dI (fun g=>q5p g) (fun _=>[]):=q0l (Γ:=(PTab.gamz tabL [] [(68,4,5)])) (Λ:=noΛ) (PTab.okz tabL [] [(68,4,5)]) q0o 100 default (fun g=>by kernel_rfl) (fun g=>by kernel_rfl)
def q2w (a:S):Dv.T dI:=
 bif !may_F a then (0:Int) else IntKind.i64.wrap (a.k+a.n)
theorem ends_ok:q04 Tryz.prog 123 aS dI (fun g=>q2w g) (fun _=>[]):=q0l (Γ:=(PTab.gamz tabL [] [(68,4,5)])) (Λ:=noΛ) (PTab.okz tabL [] [(68,4,5)]) q0o 100 default (fun g=>by kernel_rfl) (fun g=>by kernel_rfl)
def q1g (a:S) (b:S):Dv.T dI:=
 bif (bif q0u a.f b.f != (0:Int) then q0u a.f b.f else bif q0u a.k b.k != (0:Int) then q0u a.k b.k else bif q07 a.a b.a != (0:Int) then q07 a.a b.a else bif q0u a.n b.n != (0:Int) then q0u a.n b.n else (0:Int)) != (0:Int) then bif q0u a.f b.f != (0:Int) then q0u a.f b.f else bif q0u a.k b.k != (0:Int) then q0u a.k b.k else bif q07 a.a b.a != (0:Int) then q07 a.a b.a else bif q0u a.n b.n != (0:Int) then q0u a.n b.n else (0:Int)
 else bif q07 a.p0 b.p0 != (0:Int) then q07 a.p0 b.p0 else bif q07 a.p1 b.p1 != (0:Int) then q07 a.p1 b.p1 else bif q07 a.p2 b.p2 != (0:Int) then q07 a.p2 b.p2 else bif q07 a.p3 b.p3 != (0:Int) then q07 a.p3 b.p3 else (0:Int)
theorem qgg:q04 Tryz.prog 153 aSS dI (fun g=>q1g g.1 g.2) (fun _=>[]):=q0l (Γ:=(PTab.gamz tabL [] [(68,4,5)])) (Λ:=noΛ) (PTab.okz tabL [] [(68,4,5)]) q0o 100 default (fun g=>by kernel_rfl) (fun g=>by kernel_rfl)
def q1j (a:S) (b:S):Dv.T dI:=
 bif decide (a.f<b.f) then (-1:Int)
 else bif decide (a.f > b.f) then (1:Int) else bif decide (a.k<b.k) then (-1:Int) else bif decide (a.k > b.k) then (1:Int) else bif decide (a.a<b.a) then (-1:Int) else bif decide (a.a > b.a) then (1:Int) else bif decide (a.n<b.n) then (-1:Int) else bif decide (a.n > b.n) then (1:Int) else bif decide (a.p0<b.p0) then (-1:Int) else bif decide (a.p0 > b.p0) then (1:Int) else bif decide (a.p1<b.p1) then (-1:Int) else bif decide (a.p1 > b.p1) then (1:Int) else bif decide (a.p2<b.p2) then (-1:Int) else bif decide (a.p2 > b.p2) then (1:Int) else bif decide (a.p3<b.p3) then (-1:Int) else bif decide (a.p3 > b.p3) then (1:Int) else (0:Int)
theorem qlr:q04 Tryz.prog 200 aSS dI (fun g=>q1j g.1 g.2) (fun _=>[]):=q0l (Γ:=(PTab.gamz tabL [] [(68,4,5)])) (Λ:=noΛ) (PTab.okz tabL [] [(68,4,5)]) q0o 100 default (fun g=>by kernel_rfl) (fun g=>by kernel_rfl)
def q4o (a:S):Dv.T dI:=
 IntKind.i64.wrap (a.k+a.n)
theorem qr2:q04 Tryz.prog 100 aS dI (fun g=>q4o g) (fun _=>[]):=q0l (Γ:=(PTab.gamz tabL [] [(68,4,5)])) (Λ:=noΛ) (PTab.okz tabL [] [(68,4,5)]) q0o 100 default (fun g=>by kernel_rfl) (fun g=>by kernel_rfl)
def q8p (d:Int):Dv.T dS:=
 S.mk d d (0:Int) (0:Int) (0:Int) (0:Int) (0:Int) (0:Int)
theorem qr7:q04 Tryz.prog 99 aI dS (fun g=>q8p g) (fun _=>[]):=q0l (Γ:=(PTab.gamz tabL [] [(68,4,5)])) (Λ:=noΛ) (PTab.okz tabL [] [(68,4,5)]) q0o 100 default (fun g=>by kernel_rfl) (fun g=>by kernel_rfl)
def q9s (d:Int):Dv.T dS:=
 S.mk d d (0:Int) (0:Int) (0:Int) (0:Int) (0:Int) (0:Int)
theorem qu9:q04 Tryz.prog 126 aI dS (fun g=>q9s g) (fun _=>[]):=q0l (Γ:=(PTab.gamz tabL [] [(68,4,5)])) (Λ:=noΛ) (PTab.okz tabL [] [(68,4,5)]) q0o 100 default (fun g=>by kernel_rfl) (fun g=>by kernel_rfl)
def tabLB:PTab Tryz.prog:=(((((((tabL).cons 122 (pconP aS dI (fun g=>q5p g) (fun _=>[])) (q0d qv1 puI)).cons 123 (pconP aS dI (fun g=>q2w g) (fun _=>[])) (q0d ends_ok puI)).cons 153 (pconP aSS dI (fun g=>q1g g.1 g.2) (fun _=>[])) (q0d qgg puI)).cons 200 (pconP aSS dI (fun g=>q1j g.1 g.2) (fun _=>[])) (q0d qlr puI)).cons 100 (pconP aS dI (fun g=>q4o g) (fun _=>[])) (q0d qr2 puI)).cons 99 (pconP aI dS (fun g=>q8p g) (fun _=>[])) (q0d qr7 puS)).cons 126 (pconP aI dS (fun g=>q9s g) (fun _=>[])) (q0d qu9 puS)
end
end Go.Proofs.YthnojkbkojpadaaGreat

namespace Go.Proofs.YthnojkbkojpadaaGreat
noncomputable section
open Go.RowKit Go.Sx
set_option linter.unusedVariables false
def q6f (a:Place) (b:Place):Dv.T dI:=
 bif q0u a.node b.node != (0:Int) then q0u a.node b.node
 else bif q0u a.port b.port != (0:Int) then q0u a.port b.port else (0:Int)
theorem z0k:q04 Tryz.prog 121 aPP dI (fun g=>q6f g.1 g.2) (fun _=>[]):=q0l (Γ:=(PTab.gamz tabLB [] [])) (Λ:=noΛ) (PTab.okz tabLB [] []) q0o 100 default (fun g=>by kernel_rfl) (fun g=>by kernel_rfl)
def q81 (a:Place) (b:Place):Dv.T dI:=
 bif a.node != b.node&&decide (a.node<b.node) then (-1:Int)
 else bif a.node != b.node then (1:Int) else bif decide (a.port<b.port) then (-1:Int) else bif decide (a.port > b.port) then (1:Int) else (0:Int)
theorem qtf:q04 Tryz.prog 96 aPP dI (fun g=>q81 g.1 g.2) (fun _=>[]):=q0l (Γ:=(PTab.gamz tabLB [] [])) (Λ:=noΛ) (PTab.okz tabLB [] []) q0o 100 default (fun g=>by kernel_rfl) (fun g=>by kernel_rfl)
abbrev eqs_G:Type:=List S×List S×Int×Int×Bool
def qxv:LP 0 eqs_G:=.pair (.slot 0 0 dLS) (.pair (.slot 0 1 dLS) (.pair (.slot 0 12 dI) (.pair (.slot 0 13 dI) (.slot 0 4 dBool))))
def eqs_R (xs:List S) (ys:List S) (n:Int) (i:Int) (r:Bool):Ex×eqs_G:=
 bif decide (i<n) then bif !conj ([(xs.getD i.toNat eS.dflt).f==(ys.getD i.toNat eS.dflt).f]++([(xs.getD i.toNat eS.dflt).k==(ys.getD i.toNat eS.dflt).k]++([(xs.getD i.toNat eS.dflt).a==(ys.getD i.toNat eS.dflt).a]++([(xs.getD i.toNat eS.dflt).n==(ys.getD i.toNat eS.dflt).n]++([(xs.getD i.toNat eS.dflt).p0==(ys.getD i.toNat eS.dflt).p0]++([(xs.getD i.toNat eS.dflt).p1==(ys.getD i.toNat eS.dflt).p1]++([(xs.getD i.toNat eS.dflt).p2==(ys.getD i.toNat eS.dflt).p2]++([(xs.getD i.toNat eS.dflt).p3==(ys.getD i.toNat eS.dflt).p3]++[])))++[]))))) then (Ex.ret,eS.ag xs,eS.ag ys,n,i,false) else (Ex.normal,eS.ag xs,eS.ag ys,n,IntKind.i64.wrap (i+(1:Int)),r)
 else (Ex.exit (0:Nat),eS.ag xs,eS.ag ys,n,i,r)
def qij (xs:List S) (ys:List S) (n:Int) (i:Int) (r:Bool):Prop:=
 (decide (i<n)=true→((0:Int)≤i∧i<(↑xs.length:Int))∧((0:Int)≤i∧i<(↑ys.length:Int))∧((!conj ([(xs.getD i.toNat eS.dflt).f==(ys.getD i.toNat eS.dflt).f]++([(xs.getD i.toNat eS.dflt).k==(ys.getD i.toNat eS.dflt).k]++([(xs.getD i.toNat eS.dflt).a==(ys.getD i.toNat eS.dflt).a]++([(xs.getD i.toNat eS.dflt).n==(ys.getD i.toNat eS.dflt).n]++([(xs.getD i.toNat eS.dflt).p0==(ys.getD i.toNat eS.dflt).p0]++([(xs.getD i.toNat eS.dflt).p1==(ys.getD i.toNat eS.dflt).p1]++([(xs.getD i.toNat eS.dflt).p2==(ys.getD i.toNat eS.dflt).p2]++([(xs.getD i.toNat eS.dflt).p3==(ys.getD i.toNat eS.dflt).p3]++[])))++[]))))))=true→eS.okL xs∧eS.okL ys)∧((!conj ([(xs.getD i.toNat eS.dflt).f==(ys.getD i.toNat eS.dflt).f]++([(xs.getD i.toNat eS.dflt).k==(ys.getD i.toNat eS.dflt).k]++([(xs.getD i.toNat eS.dflt).a==(ys.getD i.toNat eS.dflt).a]++([(xs.getD i.toNat eS.dflt).n==(ys.getD i.toNat eS.dflt).n]++([(xs.getD i.toNat eS.dflt).p0==(ys.getD i.toNat eS.dflt).p0]++([(xs.getD i.toNat eS.dflt).p1==(ys.getD i.toNat eS.dflt).p1]++([(xs.getD i.toNat eS.dflt).p2==(ys.getD i.toNat eS.dflt).p2]++([(xs.getD i.toNat eS.dflt).p3==(ys.getD i.toNat eS.dflt).p3]++[])))++[]))))))=false→eS.okL xs∧eS.okL ys))∧(decide (i<n)=false→eS.okL xs∧eS.okL ys)
theorem eqs_one:((q00 Tryz.prog 18).filter fun c=>Nat.beq (lkey c) 4).length=1:=by kernel_rfl
abbrev q3y:Type:=List S×List S×Int
abbrev qdc:Type:=Bool
def eqs_f (g:eqs_G):Int×q3y×qdc:=(g.2.2.2.1,(g.1,g.2.1,g.2.2.1),g.2.2.2.2)
def eqs_g (d:Int×q3y×qdc):eqs_G:=(d.2.1.1,d.2.1.2.1,d.2.1.2.2,d.1,d.2.2)
abbrev qft (g:eqs_G):Ex×eqs_G:=eqs_R g.1 g.2.1 g.2.2.1 g.2.2.2.1 g.2.2.2.2
abbrev qxs (g:eqs_G):Prop:=qij g.1 g.2.1 g.2.2.1 g.2.2.2.1 g.2.2.2.2
theorem eqs_es (g:eqs_G):(qft g).1=.normal∨(qft g).1∈([.ret,.exit 0]:List Ex):=by
 unfold qft eqs_R
 repeat' (first | (left;rfl) | (right;simp only[cond_true,cond_false];simp;done) | (rw[Bool.cond_eq_ite];split))
abbrev eqs_C (Inv:eqs_G→List Prop) (m:eqs_G→Nat):LCon:=loopR [.ret,.exit 0] (loopBody Tryz.prog 18 4) qxv [] 26 Inv qft m
theorem quj (Inv:eqs_G→List Prop) (m:eqs_G→Nat) (hs:∀ g,allP (Inv g)→qxs g) (hg:Goes qft m fun g=>allP (Inv g)):∀ b∈q00 Tryz.prog 18,lkey b=4→q02 Tryz.prog b (eqs_C Inv m).g:=q0g (Γ:=(PTab.gamz tabLB [] [])) (Λ:=noΛ) (PTab.okz tabLB [] []) q0o 100 18 4 26 qxv [] Inv qft qxs m default [.ret,.exit 0] eqs_one (fun rd T B HL HB ds g=>by kernel_rfl) (fun rd T B HL HB ds g=>by kernel_rfl) hs hg eqs_es
abbrev eqp_G:Type:=List Spot×List Spot×Int×Int×Bool
def qxz:LP 0 eqp_G:=.pair (.slot 0 0 dLSp) (.pair (.slot 0 1 dLSp) (.pair (.slot 0 12 dI) (.pair (.slot 0 13 dI) (.slot 0 4 dBool))))
def eqp_R (xs:List Spot) (ys:List Spot) (n:Int) (i:Int) (r:Bool):Ex×eqp_G:=
 bif decide (i<n) then bif !conj ([(xs.getD i.toNat eSp.dflt).p.node==(ys.getD i.toNat eSp.dflt).p.node]++([(xs.getD i.toNat eSp.dflt).p.port==(ys.getD i.toNat eSp.dflt).p.port]++[])++([(xs.getD i.toNat eSp.dflt).d==(ys.getD i.toNat eSp.dflt).d]++[])) then (Ex.ret,eSp.ag xs,eSp.ag ys,n,i,false) else (Ex.normal,eSp.ag xs,eSp.ag ys,n,IntKind.i64.wrap (i+(1:Int)),r)
 else (Ex.exit (0:Nat),eSp.ag xs,eSp.ag ys,n,i,r)
def qik (xs:List Spot) (ys:List Spot) (n:Int) (i:Int) (r:Bool):Prop:=
 (decide (i<n)=true→((0:Int)≤i∧i<(↑xs.length:Int))∧((0:Int)≤i∧i<(↑ys.length:Int))∧((!conj ([(xs.getD i.toNat eSp.dflt).p.node==(ys.getD i.toNat eSp.dflt).p.node]++([(xs.getD i.toNat eSp.dflt).p.port==(ys.getD i.toNat eSp.dflt).p.port]++[])++([(xs.getD i.toNat eSp.dflt).d==(ys.getD i.toNat eSp.dflt).d]++[])))=true→eSp.okL xs∧eSp.okL ys)∧((!conj ([(xs.getD i.toNat eSp.dflt).p.node==(ys.getD i.toNat eSp.dflt).p.node]++([(xs.getD i.toNat eSp.dflt).p.port==(ys.getD i.toNat eSp.dflt).p.port]++[])++([(xs.getD i.toNat eSp.dflt).d==(ys.getD i.toNat eSp.dflt).d]++[])))=false→eSp.okL xs∧eSp.okL ys))∧(decide (i<n)=false→eSp.okL xs∧eSp.okL ys)
theorem eqp_one:((q00 Tryz.prog 21).filter fun c=>Nat.beq (lkey c) 4).length=1:=by kernel_rfl
abbrev q40:Type:=List Spot×List Spot×Int
abbrev qdd:Type:=Bool
def eqp_f (g:eqp_G):Int×q40×qdd:=(g.2.2.2.1,(g.1,g.2.1,g.2.2.1),g.2.2.2.2)
def eqp_g (d:Int×q40×qdd):eqp_G:=(d.2.1.1,d.2.1.2.1,d.2.1.2.2,d.1,d.2.2)
abbrev qfu (g:eqp_G):Ex×eqp_G:=eqp_R g.1 g.2.1 g.2.2.1 g.2.2.2.1 g.2.2.2.2
abbrev qxw (g:eqp_G):Prop:=qik g.1 g.2.1 g.2.2.1 g.2.2.2.1 g.2.2.2.2
theorem eqp_es (g:eqp_G):(qfu g).1=.normal∨(qfu g).1∈([.ret,.exit 0]:List Ex):=by
 unfold qfu eqp_R
 repeat' (first | (left;rfl) | (right;simp only[cond_true,cond_false];simp;done) | (rw[Bool.cond_eq_ite];split))
abbrev eqp_C (Inv:eqp_G→List Prop) (m:eqp_G→Nat):LCon:=loopR [.ret,.exit 0] (loopBody Tryz.prog 21 4) qxz [] 26 Inv qfu m
theorem quk (Inv:eqp_G→List Prop) (m:eqp_G→Nat) (hs:∀ g,allP (Inv g)→qxw g) (hg:Goes qfu m fun g=>allP (Inv g)):∀ b∈q00 Tryz.prog 21,lkey b=4→q02 Tryz.prog b (eqp_C Inv m).g:=q0g (Γ:=(PTab.gamz tabLB [] [])) (Λ:=noΛ) (PTab.okz tabLB [] []) q0o 100 21 4 26 qxz [] Inv qfu qxw m default [.ret,.exit 0] eqp_one (fun rd T B HL HB ds g=>by kernel_rfl) (fun rd T B HL HB ds g=>by kernel_rfl) hs hg eqp_es
abbrev ixs_G:Type:=List S×Unit×S×Int×Int×Int
def qx2:LP 1 ixs_G:=.pair (.slot 1 0 dLS) (.pair (.fix 1 3 (.p 0 0)) (.pair (.obj 1 0 42 eS) (.pair (.slot 1 7 dI) (.pair (.slot 1 8 dI) (.slot 1 4 dI)))))
def ixs_R (xs:List S) (_u:Unit) (s:S) (n:Int) (i:Int) (r:Int):Ex×ixs_G:=
 bif decide (i<n) then bif conj ([s.f==(xs.getD i.toNat eS.dflt).f]++([s.k==(xs.getD i.toNat eS.dflt).k]++([s.a==(xs.getD i.toNat eS.dflt).a]++([s.n==(xs.getD i.toNat eS.dflt).n]++([s.p0==(xs.getD i.toNat eS.dflt).p0]++([s.p1==(xs.getD i.toNat eS.dflt).p1]++([s.p2==(xs.getD i.toNat eS.dflt).p2]++([s.p3==(xs.getD i.toNat eS.dflt).p3]++[])))++[]))))) then (Ex.ret,eS.ag xs,(),s,n,i,i) else (Ex.normal,eS.ag xs,(),s,n,IntKind.i64.wrap (i+(1:Int)),r)
 else (Ex.exit (0:Nat),eS.ag xs,(),s,n,i,r)
def qi2 (xs:List S) (_u:Unit) (s:S) (n:Int) (i:Int) (r:Int):Prop:=
 (decide (i<n)=true→((0:Int)≤i∧i<(↑xs.length:Int))∧(conj ([s.f==(xs.getD i.toNat eS.dflt).f]++([s.k==(xs.getD i.toNat eS.dflt).k]++([s.a==(xs.getD i.toNat eS.dflt).a]++([s.n==(xs.getD i.toNat eS.dflt).n]++([s.p0==(xs.getD i.toNat eS.dflt).p0]++([s.p1==(xs.getD i.toNat eS.dflt).p1]++([s.p2==(xs.getD i.toNat eS.dflt).p2]++([s.p3==(xs.getD i.toNat eS.dflt).p3]++[])))++[])))))=true→eS.okL xs)∧(conj ([s.f==(xs.getD i.toNat eS.dflt).f]++([s.k==(xs.getD i.toNat eS.dflt).k]++([s.a==(xs.getD i.toNat eS.dflt).a]++([s.n==(xs.getD i.toNat eS.dflt).n]++([s.p0==(xs.getD i.toNat eS.dflt).p0]++([s.p1==(xs.getD i.toNat eS.dflt).p1]++([s.p2==(xs.getD i.toNat eS.dflt).p2]++([s.p3==(xs.getD i.toNat eS.dflt).p3]++[])))++[])))))=false→eS.okL xs))∧(decide (i<n)=false→eS.okL xs)
theorem z1a:((q00 Tryz.prog 155).filter fun c=>Nat.beq (lkey c) 2).length=1:=by kernel_rfl
abbrev q3u:Type:=List S×S×Int
abbrev qcz:Type:=Unit×Int
def ixs_f (g:ixs_G):Int×q3u×qcz:=(g.2.2.2.2.1,(g.1,g.2.2.1,g.2.2.2.1),(g.2.1,g.2.2.2.2.2))
def ixs_g (d:Int×q3u×qcz):ixs_G:=(d.2.1.1,d.2.2.1,d.2.1.2.1,d.2.1.2.2,d.1,d.2.2.2)
abbrev qfc (g:ixs_G):Ex×ixs_G:=ixs_R g.1 g.2.1 g.2.2.1 g.2.2.2.1 g.2.2.2.2.1 g.2.2.2.2.2
abbrev qwz (g:ixs_G):Prop:=qi2 g.1 g.2.1 g.2.2.1 g.2.2.2.1 g.2.2.2.2.1 g.2.2.2.2.2
theorem ixs_es (g:ixs_G):(qfc g).1=.normal∨(qfc g).1∈([.ret,.exit 0]:List Ex):=by
 unfold qfc ixs_R
 repeat' (first | (left;rfl) | (right;simp only[cond_true,cond_false];simp;done) | (rw[Bool.cond_eq_ite];split))
abbrev ixs_C (Inv:ixs_G→List Prop) (m:ixs_G→Nat):LCon:=loopR [.ret,.exit 0] (loopBody Tryz.prog 155 2) qx2 [] 19 Inv qfc m
theorem qu7 (Inv:ixs_G→List Prop) (m:ixs_G→Nat) (hs:∀ g,allP (Inv g)→qwz g) (hg:Goes qfc m fun g=>allP (Inv g)):∀ b∈q00 Tryz.prog 155,lkey b=2→q02 Tryz.prog b (ixs_C Inv m).g:=q0g (Γ:=(PTab.gamz tabLB [] [])) (Λ:=noΛ) (PTab.okz tabLB [] []) q0o 100 155 2 19 qx2 [] Inv qfc qwz m default [.ret,.exit 0] z1a (fun rd T B HL HB ds g=>by kernel_rfl) (fun rd T B HL HB ds g=>by kernel_rfl) hs hg ixs_es
abbrev hsm_G:Type:=List S×Unit×S×Int×Bool
def qxd:LP 1 hsm_G:=.pair (.slot 1 0 dLS) (.pair (.fix 1 3 (.p 0 0)) (.pair (.obj 1 0 42 eS) (.pair (.slot 1 5 dI) (.slot 1 4 dBool))))
def hsm_R (xs:List S) (_u:Unit) (s:S) (i:Int) (r:Bool):Ex×hsm_G:=
 bif decide (i<(↑xs.length:Int)) then bif conj ([(xs.getD i.toNat eS.dflt).f==s.f]++([(xs.getD i.toNat eS.dflt).k==s.k]++([(xs.getD i.toNat eS.dflt).a==s.a]++([(xs.getD i.toNat eS.dflt).n==s.n]++([(xs.getD i.toNat eS.dflt).p0==s.p0]++([(xs.getD i.toNat eS.dflt).p1==s.p1]++([(xs.getD i.toNat eS.dflt).p2==s.p2]++([(xs.getD i.toNat eS.dflt).p3==s.p3]++[])))++[]))))) then (Ex.ret,eS.ag xs,(),s,i,true) else (Ex.normal,eS.ag xs,(),s,IntKind.i64.wrap (i+(1:Int)),r)
 else (Ex.exit (0:Nat),eS.ag xs,(),s,i,r)
def qi8 (xs:List S) (_u:Unit) (s:S) (i:Int) (r:Bool):Prop:=
 (decide (i<(↑xs.length:Int))=true→((0:Int)≤i∧i<(↑xs.length:Int))∧(conj ([(xs.getD i.toNat eS.dflt).f==s.f]++([(xs.getD i.toNat eS.dflt).k==s.k]++([(xs.getD i.toNat eS.dflt).a==s.a]++([(xs.getD i.toNat eS.dflt).n==s.n]++([(xs.getD i.toNat eS.dflt).p0==s.p0]++([(xs.getD i.toNat eS.dflt).p1==s.p1]++([(xs.getD i.toNat eS.dflt).p2==s.p2]++([(xs.getD i.toNat eS.dflt).p3==s.p3]++[])))++[])))))=true→eS.okL xs)∧(conj ([(xs.getD i.toNat eS.dflt).f==s.f]++([(xs.getD i.toNat eS.dflt).k==s.k]++([(xs.getD i.toNat eS.dflt).a==s.a]++([(xs.getD i.toNat eS.dflt).n==s.n]++([(xs.getD i.toNat eS.dflt).p0==s.p0]++([(xs.getD i.toNat eS.dflt).p1==s.p1]++([(xs.getD i.toNat eS.dflt).p2==s.p2]++([(xs.getD i.toNat eS.dflt).p3==s.p3]++[])))++[])))))=false→eS.okL xs))∧(decide (i<(↑xs.length:Int))=false→eS.okL xs)
theorem z1r:((q00 Tryz.prog 98).filter fun c=>Nat.beq (lkey c) 2).length=1:=by kernel_rfl
abbrev q3w:Type:=List S×S
abbrev qd5:Type:=Unit×Bool
def hsm_f (g:hsm_G):Int×q3w×qd5:=(g.2.2.2.1,(g.1,g.2.2.1),(g.2.1,g.2.2.2.2))
def hsm_g (d:Int×q3w×qd5):hsm_G:=(d.2.1.1,d.2.2.1,d.2.1.2,d.1,d.2.2.2)
abbrev qff (g:hsm_G):Ex×hsm_G:=hsm_R g.1 g.2.1 g.2.2.1 g.2.2.2.1 g.2.2.2.2
abbrev qxa (g:hsm_G):Prop:=qi8 g.1 g.2.1 g.2.2.1 g.2.2.2.1 g.2.2.2.2
theorem hsm_es (g:hsm_G):(qff g).1=.normal∨(qff g).1∈([.ret,.exit 0]:List Ex):=by
 unfold qff hsm_R
 repeat' (first | (left;rfl) | (right;simp only[cond_true,cond_false];simp;done) | (rw[Bool.cond_eq_ite];split))
abbrev hsm_C (Inv:hsm_G→List Prop) (m:hsm_G→Nat):LCon:=loopR [.ret,.exit 0] (loopBody Tryz.prog 98 2) qxd [] 18 Inv qff m
theorem quc (Inv:hsm_G→List Prop) (m:hsm_G→Nat) (hs:∀ g,allP (Inv g)→qxa g) (hg:Goes qff m fun g=>allP (Inv g)):∀ b∈q00 Tryz.prog 98,lkey b=2→q02 Tryz.prog b (hsm_C Inv m).g:=q0g (Γ:=(PTab.gamz tabLB [] [])) (Λ:=noΛ) (PTab.okz tabLB [] []) q0o 100 98 2 18 qxd [] Inv qff qxa m default [.ret,.exit 0] z1r (fun rd T B HL HB ds g=>by kernel_rfl) (fun rd T B HL HB ds g=>by kernel_rfl) hs hg hsm_es
abbrev dpt_G:Type:=List Path×Unit×Place×Int×Int×Bool
def qy3:LP 1 dpt_G:=.pair (.slot 1 0 dLP) (.pair (.fix 1 3 (.p 0 0)) (.pair (.obj 1 0 24 eP) (.pair (.slot 1 6 dI) (.pair (.slot 1 4 dI) (.slot 1 5 dBool)))))
def dpt_R (xs:List Path) (_u:Unit) (p:Place) (i:Int) (r:Int) (o:Bool):Ex×dpt_G:=
 bif decide (i<(↑xs.length:Int)) then bif conj ([(xs.getD i.toNat ePa.dflt).fr.node==p.node]++([(xs.getD i.toNat ePa.dflt).fr.port==p.port]++[]))&&(conj ([(xs.getD i.toNat ePa.dflt).to.node==p.node]++([(xs.getD i.toNat ePa.dflt).to.port==p.port]++[]))&&decide ((↑(xs.getD i.toNat ePa.dflt).ss.length:Int) > (0:Int))) then (Ex.ret,ePa.ag xs,(),p,i,((xs.getD i.toNat ePa.dflt).ss.getD (0:Nat) eS.dflt).f,true) else (Ex.normal,ePa.ag xs,(),p,IntKind.i64.wrap (i+(1:Int)),r,o)
 else (Ex.exit (0:Nat),ePa.ag xs,(),p,i,r,o)
def qis (xs:List Path) (_u:Unit) (p:Place) (i:Int) (r:Int) (o:Bool):Prop:=
 (decide (i<(↑xs.length:Int))=true→((0:Int)≤i∧i<(↑xs.length:Int))∧(conj ([(xs.getD i.toNat ePa.dflt).fr.node==p.node]++([(xs.getD i.toNat ePa.dflt).fr.port==p.port]++[]))=true→(0:Int)≤i∧i<(↑xs.length:Int))∧(conj ([(xs.getD i.toNat ePa.dflt).fr.node==p.node]++([(xs.getD i.toNat ePa.dflt).fr.port==p.port]++[]))=true→conj ([(xs.getD i.toNat ePa.dflt).to.node==p.node]++([(xs.getD i.toNat ePa.dflt).to.port==p.port]++[]))=true→(0:Int)≤i∧i<(↑xs.length:Int))∧((conj ([(xs.getD i.toNat ePa.dflt).fr.node==p.node]++([(xs.getD i.toNat ePa.dflt).fr.port==p.port]++[]))&&(conj ([(xs.getD i.toNat ePa.dflt).to.node==p.node]++([(xs.getD i.toNat ePa.dflt).to.port==p.port]++[]))&&decide ((↑(xs.getD i.toNat ePa.dflt).ss.length:Int) > (0:Int))))=true→((0:Int)≤i∧i<(↑xs.length:Int))∧((0:Int)≤(0:Int)∧(0:Int)<(↑(xs.getD i.toNat ePa.dflt).ss.length:Int))∧ePa.okL xs)∧((conj ([(xs.getD i.toNat ePa.dflt).fr.node==p.node]++([(xs.getD i.toNat ePa.dflt).fr.port==p.port]++[]))&&(conj ([(xs.getD i.toNat ePa.dflt).to.node==p.node]++([(xs.getD i.toNat ePa.dflt).to.port==p.port]++[]))&&decide ((↑(xs.getD i.toNat ePa.dflt).ss.length:Int) > (0:Int))))=false→ePa.okL xs))∧(decide (i<(↑xs.length:Int))=false→ePa.okL xs)
theorem dpt_one:((q00 Tryz.prog 52).filter fun c=>Nat.beq (lkey c) 2).length=1:=by kernel_rfl
abbrev q41:Type:=List Path×Place
abbrev qdi:Type:=Unit×Int×Bool
def dpt_f (g:dpt_G):Int×q41×qdi:=(g.2.2.2.1,(g.1,g.2.2.1),(g.2.1,g.2.2.2.2.1,g.2.2.2.2.2))
def dpt_g (d:Int×q41×qdi):dpt_G:=(d.2.1.1,d.2.2.1,d.2.1.2,d.1,d.2.2.2.1,d.2.2.2.2)
abbrev qg2 (g:dpt_G):Ex×dpt_G:=dpt_R g.1 g.2.1 g.2.2.1 g.2.2.2.1 g.2.2.2.2.1 g.2.2.2.2.2
abbrev qy0 (g:dpt_G):Prop:=qis g.1 g.2.1 g.2.2.1 g.2.2.2.1 g.2.2.2.2.1 g.2.2.2.2.2
theorem dpt_es (g:dpt_G):(qg2 g).1=.normal∨(qg2 g).1∈([.ret,.exit 0]:List Ex):=by
 unfold qg2 dpt_R
 repeat' (first | (left;rfl) | (right;simp only[cond_true,cond_false];simp;done) | (rw[Bool.cond_eq_ite];split))
abbrev dpt_C (Inv:dpt_G→List Prop) (m:dpt_G→Nat):LCon:=loopR [.ret,.exit 0] (loopBody Tryz.prog 52 2) qy3 [] 46 Inv qg2 m
theorem qup (Inv:dpt_G→List Prop) (m:dpt_G→Nat) (hs:∀ g,allP (Inv g)→qy0 g) (hg:Goes qg2 m fun g=>allP (Inv g)):∀ b∈q00 Tryz.prog 52,lkey b=2→q02 Tryz.prog b (dpt_C Inv m).g:=q0g (Γ:=(PTab.gamz tabLB [] [])) (Λ:=noΛ) (PTab.okz tabLB [] []) q0o 100 52 2 46 qy3 [] Inv qg2 qy0 m default [.ret,.exit 0] dpt_one (fun rd T B HL HB ds g=>by kernel_rfl) (fun rd T B HL HB ds g=>by kernel_rfl) hs hg dpt_es
abbrev sml_G:Type:=List S×List S×Int×Bool
def qvr:LP 0 sml_G:=.pair (.slot 0 0 dLS) (.pair (.slot 0 3 dLS) (.pair (.slot 0 5 dI) (.slot 0 2 dBool)))
def sml_R (xs:List S) (ys:List S) (i:Int) (r:Bool):Ex×sml_G:=
 bif decide (i<(↑xs.length:Int))&&decide (i<(↑ys.length:Int)) then bif !conj ([(ys.getD i.toNat eS.dflt).f==(xs.getD i.toNat eS.dflt).f]++([(ys.getD i.toNat eS.dflt).k==(xs.getD i.toNat eS.dflt).k]++([(ys.getD i.toNat eS.dflt).a==(xs.getD i.toNat eS.dflt).a]++([(ys.getD i.toNat eS.dflt).n==(xs.getD i.toNat eS.dflt).n]++([(ys.getD i.toNat eS.dflt).p0==(xs.getD i.toNat eS.dflt).p0]++([(ys.getD i.toNat eS.dflt).p1==(xs.getD i.toNat eS.dflt).p1]++([(ys.getD i.toNat eS.dflt).p2==(xs.getD i.toNat eS.dflt).p2]++([(ys.getD i.toNat eS.dflt).p3==(xs.getD i.toNat eS.dflt).p3]++[])))++[]))))) then (Ex.ret,eS.ag xs,eS.ag ys,i,false) else (Ex.normal,eS.ag xs,eS.ag ys,IntKind.i64.wrap (i+(1:Int)),r)
 else (Ex.exit (0:Nat),eS.ag xs,eS.ag ys,i,r)
def qh7 (xs:List S) (ys:List S) (i:Int) (r:Bool):Prop:=
 ((decide (i<(↑xs.length:Int))&&decide (i<(↑ys.length:Int)))=true→((0:Int)≤i∧i<(↑ys.length:Int))∧((0:Int)≤i∧i<(↑xs.length:Int))∧((!conj ([(ys.getD i.toNat eS.dflt).f==(xs.getD i.toNat eS.dflt).f]++([(ys.getD i.toNat eS.dflt).k==(xs.getD i.toNat eS.dflt).k]++([(ys.getD i.toNat eS.dflt).a==(xs.getD i.toNat eS.dflt).a]++([(ys.getD i.toNat eS.dflt).n==(xs.getD i.toNat eS.dflt).n]++([(ys.getD i.toNat eS.dflt).p0==(xs.getD i.toNat eS.dflt).p0]++([(ys.getD i.toNat eS.dflt).p1==(xs.getD i.toNat eS.dflt).p1]++([(ys.getD i.toNat eS.dflt).p2==(xs.getD i.toNat eS.dflt).p2]++([(ys.getD i.toNat eS.dflt).p3==(xs.getD i.toNat eS.dflt).p3]++[])))++[]))))))=true→eS.okL xs∧eS.okL ys)∧((!conj ([(ys.getD i.toNat eS.dflt).f==(xs.getD i.toNat eS.dflt).f]++([(ys.getD i.toNat eS.dflt).k==(xs.getD i.toNat eS.dflt).k]++([(ys.getD i.toNat eS.dflt).a==(xs.getD i.toNat eS.dflt).a]++([(ys.getD i.toNat eS.dflt).n==(xs.getD i.toNat eS.dflt).n]++([(ys.getD i.toNat eS.dflt).p0==(xs.getD i.toNat eS.dflt).p0]++([(ys.getD i.toNat eS.dflt).p1==(xs.getD i.toNat eS.dflt).p1]++([(ys.getD i.toNat eS.dflt).p2==(xs.getD i.toNat eS.dflt).p2]++([(ys.getD i.toNat eS.dflt).p3==(xs.getD i.toNat eS.dflt).p3]++[])))++[]))))))=false→eS.okL xs∧eS.okL ys))∧((decide (i<(↑xs.length:Int))&&decide (i<(↑ys.length:Int)))=false→eS.okL xs∧eS.okL ys)
theorem qzm:((q00 Tryz.prog 97).filter fun c=>Nat.beq (lkey c) 7).length=1:=by kernel_rfl
abbrev q63:Type:=List S×List S
abbrev qeg:Type:=Bool
def sml_f (g:sml_G):Int×q63×qeg:=(g.2.2.1,(g.1,g.2.1),g.2.2.2)
def sml_g (d:Int×q63×qeg):sml_G:=(d.2.1.1,d.2.1.2,d.1,d.2.2)
abbrev qef (g:sml_G):Ex×sml_G:=sml_R g.1 g.2.1 g.2.2.1 g.2.2.2
abbrev qvp (g:sml_G):Prop:=qh7 g.1 g.2.1 g.2.2.1 g.2.2.2
theorem sml_es (g:sml_G):(qef g).1=.normal∨(qef g).1∈([.ret,.exit 0]:List Ex):=by
 unfold qef sml_R
 repeat' (first | (left;rfl) | (right;simp only[cond_true,cond_false];simp;done) | (rw[Bool.cond_eq_ite];split))
abbrev sml_C (Inv:sml_G→List Prop) (m:sml_G→Nat):LCon:=loopR [.ret,.exit 0] (loopBody Tryz.prog 97 7) qvr [] 49 Inv qef m
theorem qt4 (Inv:sml_G→List Prop) (m:sml_G→Nat) (hs:∀ g,allP (Inv g)→qvp g) (hg:Goes qef m fun g=>allP (Inv g)):∀ b∈q00 Tryz.prog 97,lkey b=7→q02 Tryz.prog b (sml_C Inv m).g:=q0g (Γ:=(PTab.gamz tabLB [] [])) (Λ:=noΛ) (PTab.okz tabLB [] []) q0o 100 97 7 49 qvr [] Inv qef qvp m default [.ret,.exit 0] qzm (fun rd T B HL HB ds g=>by kernel_rfl) (fun rd T B HL HB ds g=>by kernel_rfl) hs hg sml_es
abbrev gts_G:Type:=List Path×Unit×Place×Unit×Place×List S×Int
def qxh:LP 2 gts_G:=.pair (.slot 2 0 dLP) (.pair (.fix 2 4 (.p 0 0)) (.pair (.obj 2 0 24 eP) (.pair (.fix 2 5 (.p 1 0)) (.pair (.obj 2 1 24 eP) (.pair (.row 2 6 42 eS) (.slot 2 7 dI))))))
def gts_R (xs:List Path) (_u:Unit) (p:Place) (_u2:Unit) (q:Place) (o:List S) (i:Int):Ex×gts_G:=
 bif decide (i<(↑xs.length:Int)) then bif conj ([(xs.getD i.toNat ePa.dflt).fr.node==p.node]++([(xs.getD i.toNat ePa.dflt).fr.port==p.port]++[]))&&conj ([(xs.getD i.toNat ePa.dflt).to.node==q.node]++([(xs.getD i.toNat ePa.dflt).to.port==q.port]++[])) then (Ex.ret,ePa.ag xs,(),p,(),q,List.map (fun x=>eS.get []) (List.range (min ((0:Nat)+(xs.getD i.toNat ePa.dflt).ss.length) (0:Nat)))++eS.lst ((0:Nat)+(xs.getD i.toNat ePa.dflt).ss.length - (0:Nat)) (eS.els (xs.getD i.toNat ePa.dflt).ss),i) else (Ex.normal,ePa.ag xs,(),p,(),q,eS.ag o,IntKind.i64.wrap (i+(1:Int)))
 else (Ex.exit (0:Nat),ePa.ag xs,(),p,(),q,eS.ag o,i)
def qi9 (xs:List Path) (_u:Unit) (p:Place) (_u2:Unit) (q:Place) (o:List S) (i:Int):Prop:=
 (decide (i<(↑xs.length:Int))=true→((0:Int)≤i∧i<(↑xs.length:Int))∧(conj ([(xs.getD i.toNat ePa.dflt).fr.node==p.node]++([(xs.getD i.toNat ePa.dflt).fr.port==p.port]++[]))=true→(0:Int)≤i∧i<(↑xs.length:Int))∧((conj ([(xs.getD i.toNat ePa.dflt).fr.node==p.node]++([(xs.getD i.toNat ePa.dflt).fr.port==p.port]++[]))&&conj ([(xs.getD i.toNat ePa.dflt).to.node==q.node]++([(xs.getD i.toNat ePa.dflt).to.port==q.port]++[])))=true→((0:Int)≤i∧i<(↑xs.length:Int))∧(True∧(∀ (e:Nat),e<(xs.getD i.toNat ePa.dflt).ss.length→(eS.els (xs.getD i.toNat ePa.dflt).ss e).all SV.one=true)∧(0:Nat)+(xs.getD i.toNat ePa.dflt).ss.length≤maxLen∧((0:Nat)+(xs.getD i.toNat ePa.dflt).ss.length) * Tryz.prog.types[(42:Nat)].bytes≤(140737488355328:Nat))∧ePa.okL xs∧(0:Nat)+(xs.getD i.toNat ePa.dflt).ss.length≤(0:Nat)+(xs.getD i.toNat ePa.dflt).ss.length∧(∀ (e:Nat),e<min ((0:Nat)+(xs.getD i.toNat ePa.dflt).ss.length) (0:Nat)→eS.OkP [])∧∀ (e:Nat),e<(0:Nat)+(xs.getD i.toNat ePa.dflt).ss.length - (0:Nat)→True)∧((conj ([(xs.getD i.toNat ePa.dflt).fr.node==p.node]++([(xs.getD i.toNat ePa.dflt).fr.port==p.port]++[]))&&conj ([(xs.getD i.toNat ePa.dflt).to.node==q.node]++([(xs.getD i.toNat ePa.dflt).to.port==q.port]++[])))=false→ePa.okL xs∧o.length≤o.length∧∀ (e:Nat),e<o.length→True))∧(decide (i<(↑xs.length:Int))=false→ePa.okL xs∧o.length≤o.length∧∀ (e:Nat),e<o.length→True)
theorem gts_one:((q00 Tryz.prog 58).filter fun c=>Nat.beq (lkey c) 2).length=1:=by kernel_rfl
abbrev q3x:Type:=List Path×Place×Place
abbrev qd6:Type:=Unit×Unit×List S
def gts_f (g:gts_G):Int×q3x×qd6:=(g.2.2.2.2.2.2,(g.1,g.2.2.1,g.2.2.2.2.1),(g.2.1,g.2.2.2.1,g.2.2.2.2.2.1))
def gts_g (d:Int×q3x×qd6):gts_G:=(d.2.1.1,d.2.2.1,d.2.1.2.1,d.2.2.2.1,d.2.1.2.2,d.2.2.2.2,d.1)
abbrev qfg (g:gts_G):Ex×gts_G:=gts_R g.1 g.2.1 g.2.2.1 g.2.2.2.1 g.2.2.2.2.1 g.2.2.2.2.2.1 g.2.2.2.2.2.2
abbrev qxe (g:gts_G):Prop:=qi9 g.1 g.2.1 g.2.2.1 g.2.2.2.1 g.2.2.2.2.1 g.2.2.2.2.2.1 g.2.2.2.2.2.2
theorem gts_es (g:gts_G):(qfg g).1=.normal∨(qfg g).1∈([.ret,.exit 0]:List Ex):=by
 unfold qfg gts_R
 repeat' (first | (left;rfl) | (right;simp only[cond_true,cond_false];simp;done) | (rw[Bool.cond_eq_ite];split))
abbrev gts_C (Inv:gts_G→List Prop) (m:gts_G→Nat):LCon:=loopR [.ret,.exit 0] (loopBody Tryz.prog 58 2) qxh [] 36 Inv qfg m
theorem que (Inv:gts_G→List Prop) (m:gts_G→Nat) (hs:∀ g,allP (Inv g)→qxe g) (hg:Goes qfg m fun g=>allP (Inv g)):∀ b∈q00 Tryz.prog 58,lkey b=2→q02 Tryz.prog b (gts_C Inv m).g:=q0g (Γ:=(PTab.gamz tabLB [] [])) (Λ:=noΛ) (PTab.okz tabLB [] []) q0o 100 58 2 36 qxh [] Inv qfg qxe m default [.ret,.exit 0] gts_one (fun rd T B HL HB ds g=>by kernel_rfl) (fun rd T B HL HB ds g=>by kernel_rfl) hs hg gts_es
abbrev spt_G:Type:=List Path×List Spot×Int
def qvo:LP 0 spt_G:=.pair (.slot 0 0 dLP) (.pair (.row 0 3 34 eSp) (.slot 0 4 dI))
def spt_R (xs:List Path) (o:List Spot) (i:Int):Ex×spt_G:=
 bif decide (i<(↑xs.length:Int)) then bif conj ([(xs.getD i.toNat ePa.dflt).fr.node==(xs.getD i.toNat ePa.dflt).to.node]++([(xs.getD i.toNat ePa.dflt).fr.port==(xs.getD i.toNat ePa.dflt).to.port]++[])) then (Ex.normal,ePa.ag xs,eSp.lst (min (o.length+(1:Nat)) o.length) (eSp.els o)++List.map (fun x=>Spot.mk (xs.getD i.toNat ePa.dflt).fr ((xs.getD i.toNat ePa.dflt).ss.getD (0:Nat) eS.dflt).f) (List.range (o.length+(1:Nat) - o.length)),IntKind.i64.wrap (i+(1:Int))) else (Ex.normal,ePa.ag xs,eSp.ag o,IntKind.i64.wrap (i+(1:Int)))
 else (Ex.exit (0:Nat),ePa.ag xs,eSp.ag o,i)
def qh5 (xs:List Path) (o:List Spot) (i:Int):Prop:=
 (decide (i<(↑xs.length:Int))=true→((0:Int)≤i∧i<(↑xs.length:Int))∧((0:Int)≤i∧i<(↑xs.length:Int))∧(conj ([(xs.getD i.toNat ePa.dflt).fr.node==(xs.getD i.toNat ePa.dflt).to.node]++([(xs.getD i.toNat ePa.dflt).fr.port==(xs.getD i.toNat ePa.dflt).to.port]++[]))=true→((0:Int)≤i∧i<(↑xs.length:Int))∧((0:Int)≤i∧i<(↑xs.length:Int))∧((0:Int)≤(0:Int)∧(0:Int)<(↑(xs.getD i.toNat ePa.dflt).ss.length:Int))∧(o.length≤o.length∧True∧o.length+(1:Nat)≤maxLen∧(o.length+(1:Nat)) * Tryz.prog.types[(34:Nat)].bytes≤(140737488355328:Nat))∧ePa.okL xs∧o.length+(1:Nat)≤o.length+(1:Nat)∧(∀ (e:Nat),e<min (o.length+(1:Nat)) o.length→True)∧∀ (e:Nat),e<o.length+(1:Nat) - o.length→True)∧(conj ([(xs.getD i.toNat ePa.dflt).fr.node==(xs.getD i.toNat ePa.dflt).to.node]++([(xs.getD i.toNat ePa.dflt).fr.port==(xs.getD i.toNat ePa.dflt).to.port]++[]))=false→ePa.okL xs∧o.length≤o.length∧∀ (e:Nat),e<o.length→True))∧(decide (i<(↑xs.length:Int))=false→ePa.okL xs∧o.length≤o.length∧∀ (e:Nat),e<o.length→True)
theorem qzi:((q00 Tryz.prog 17).filter fun c=>Nat.beq (lkey c) 3).length=1:=by kernel_rfl
abbrev q62:Type:=List Path
abbrev qed:Type:=List Spot
def spt_f (g:spt_G):Int×q62×qed:=(g.2.2,g.1,g.2.1)
def spt_g (d:Int×q62×qed):spt_G:=(d.2.1,d.2.2,d.1)
abbrev qec (g:spt_G):Ex×spt_G:=spt_R g.1 g.2.1 g.2.2
abbrev qvl (g:spt_G):Prop:=qh5 g.1 g.2.1 g.2.2
theorem spt_es (g:spt_G):(qec g).1=.normal∨(qec g).1∈([.exit 0]:List Ex):=by
 unfold qec spt_R
 repeat' (first | (left;rfl) | (right;simp only[cond_true,cond_false];simp;done) | (rw[Bool.cond_eq_ite];split))
abbrev spt_C (Inv:spt_G→List Prop) (m:spt_G→Nat):LCon:=loopR [.exit 0] (loopBody Tryz.prog 17 3) qvo [] 40 Inv qec m
theorem qt0 (Inv:spt_G→List Prop) (m:spt_G→Nat) (hs:∀ g,allP (Inv g)→qvl g) (hg:Goes qec m fun g=>allP (Inv g)):∀ b∈q00 Tryz.prog 17,lkey b=3→q02 Tryz.prog b (spt_C Inv m).g:=q0g (Γ:=(PTab.gamz tabLB [] [])) (Λ:=noΛ) (PTab.okz tabLB [] []) q0o 100 17 3 40 qvo [] Inv qec qvl m default [.exit 0] qzi (fun rd T B HL HB ds g=>by kernel_rfl) (fun rd T B HL HB ds g=>by kernel_rfl) hs hg spt_es
def tabM1:PTab Tryz.prog:=((tabLB).cons 121 (pconP aPP dI (fun g=>q6f g.1 g.2) (fun _=>[])) (q0d z0k puI)).cons 96 (pconP aPP dI (fun g=>q81 g.1 g.2) (fun _=>[])) (q0d qtf puI)
end
end Go.Proofs.YthnojkbkojpadaaGreat

namespace Go.Proofs.YthnojkbkojpadaaGreat
noncomputable section
open Go.RowKit Go.Sx Go.Lp
theorem conjS (a b:S):conj ([a.f==b.f]++([a.k==b.k]++([a.a==b.a]++([a.n==b.n]++([a.p0==b.p0]++([a.p1==b.p1]++([a.p2==b.p2]++([a.p3==b.p3]++[])))++[])))))=decide (a=b):=by
 obtain ⟨f,k,c,n,p0,p1,p2,p3⟩:=a
 obtain ⟨f',k',c',n',p0',p1',p2',p3'⟩:=b
 simp[conj]
 rw[Bool.eq_iff_iff]
 simp
theorem conjP (a b:Place):conj ([a.node==b.node]++([a.port==b.port]++[]))=decide (a=b):=by
 obtain ⟨f,k⟩:=a
 obtain ⟨f',k'⟩:=b
 simp[conj]
 rw[Bool.eq_iff_iff]
 simp
theorem conjSp (a b:Spot):conj ([a.p.node==b.p.node]++([a.p.port==b.p.port]++[])++([a.d==b.d]++[]))=decide (a=b):=by
 obtain ⟨⟨f,k⟩,d⟩:=a
 obtain ⟨⟨f',k'⟩,d'⟩:=b
 simp[conj]
 rw[Bool.eq_iff_iff]
 simp[and_assoc]
theorem ap0 {α:Type} (A:El α) (xs:List α):List.map (fun _=>A.get []) (List.range (min ((0:Nat)+xs.length) (0:Nat)))++A.lst ((0:Nat)+xs.length - (0:Nat)) (A.els xs)=xs:=by
 have h2:min (0+xs.length) 0=0:=by omega
 rw[h2,show 0+xs.length - 0=xs.length by omega,A.lst_els]
 rfl
def eqs_S (c:q3y) (b:qdc) (i:Int) (v:S):Ex×qdc:=bif !decide (v=(c.2.1.getD i.toNat eS.dflt)) then (.ret,false) else (.normal,b)
def eqs_K (c:q3y) (b:qdc) (i:Int):Prop:=c.1.length=c.2.1.length
abbrev eqs_I (g:eqs_G):List Prop:=ixI (fun c:q3y=>c.2.2) (fun c:q3y=>c.1) eqs_K (eqs_f g)
abbrev eqs_M (g:eqs_G):Nat:=ixM (fun c:q3y=>c.2.2) (eqs_f g)
theorem eqs_P:ixP eqs_S (fun c:q3y=>c.1) eqs_K:=fun _ _ _ _ h _ _=>h
abbrev qxt (g:eqs_G):Ex×eqs_G:=eqs_R g.1 g.2.1 g.2.2.1 g.2.2.2.1 g.2.2.2.2
theorem qxu (d:Int×q3y×qdc) (hi:allP (ixI (fun c:q3y=>c.2.2) (fun c:q3y=>c.1) eqs_K d)):qxt (eqs_g d)=((ixF 0 (fun c:q3y=>c.2.2) (fun c:q3y=>c.1) eS.dflt eqs_S d).1,eqs_g (ixF 0 (fun c:q3y=>c.2.2) (fun c:q3y=>c.1) eS.dflt eqs_S d).2):=by
 obtain ⟨i,⟨xs,ys,n⟩,r⟩:=d
 show eqs_R xs ys n i r=_
 unfold eqs_R ixF eqs_S
 simp only[El.ag_eq,conjS]
 cases decide (i<n) with
 | false=>rfl
 | true=>
  simp only[cond_true]
  generalize (!decide ((xs.getD i.toNat eS.dflt)=(ys.getD i.toNat eS.dflt)))=z
  cases z <;> rfl
theorem eqs_ok:∀ b∈q00 Tryz.prog 18,lkey b=4→q02 Tryz.prog b (eqs_C eqs_I eqs_M).g:=by
 refine quj eqs_I eqs_M (fun g hi=>?_) (q06 (fun _=>rfl) (fun _=>rfl) qxu eqs_P)
 obtain ⟨xs,ys,n,i,r⟩:=g
 obtain ⟨h1,h2,h3,h4,h5⟩:=hi _ (List.mem_cons_self ..)
 have h1:n=(xs.length:Int):=h1
 have h3:0≤i:=h3
 have h5:xs.length=ys.length:=h5
 show qij xs ys n i r
 unfold qij
 simp only[decide_eq_true_eq,decide_eq_false_iff_not]
 have k0:∀ e:Nat,e<xs.length→eS.Ok (eS.els xs e):=fun e _=>eS.ok_els xs e
 have k1:∀ e:Nat,e<ys.length→eS.Ok (eS.els ys e):=fun e _=>eS.ok_els ys e
 clear hi
 repeat' (first | exact k0 | exact k1 | apply And.intro | intro _)
 all_goals omega
theorem eqs_run (c:q3y) (b:qdc) (k1:c.2.2=((c.1).length:Int)) (k2:(c.1).length≤maxLen) (k3:eqs_K c b 0):loopF qxt eqs_M (eqs_g (0,c,b))=((scan 0 (eqs_S c) 0 (c.1) b).1,eqs_g ((scan 0 (eqs_S c) 0 (c.1) b).2.1,c,(scan 0 (eqs_S c) 0 (c.1) b).2.2)):=q0a (φ:=eqs_f) (ψ:=eqs_g) (fun _=>rfl) (fun _=>rfl) qxu eqs_P c b k1 k2 k3
def eqp_S (c:q40) (b:qdd) (i:Int) (v:Spot):Ex×qdd:=bif !decide (v=(c.2.1.getD i.toNat eSp.dflt)) then (.ret,false) else (.normal,b)
def eqp_K (c:q40) (b:qdd) (i:Int):Prop:=c.1.length=c.2.1.length
abbrev eqp_I (g:eqp_G):List Prop:=ixI (fun c:q40=>c.2.2) (fun c:q40=>c.1) eqp_K (eqp_f g)
abbrev eqp_M (g:eqp_G):Nat:=ixM (fun c:q40=>c.2.2) (eqp_f g)
theorem eqp_P:ixP eqp_S (fun c:q40=>c.1) eqp_K:=fun _ _ _ _ h _ _=>h
abbrev qxx (g:eqp_G):Ex×eqp_G:=eqp_R g.1 g.2.1 g.2.2.1 g.2.2.2.1 g.2.2.2.2
theorem qxy (d:Int×q40×qdd) (hi:allP (ixI (fun c:q40=>c.2.2) (fun c:q40=>c.1) eqp_K d)):qxx (eqp_g d)=((ixF 0 (fun c:q40=>c.2.2) (fun c:q40=>c.1) eSp.dflt eqp_S d).1,eqp_g (ixF 0 (fun c:q40=>c.2.2) (fun c:q40=>c.1) eSp.dflt eqp_S d).2):=by
 obtain ⟨i,⟨xs,ys,n⟩,r⟩:=d
 show eqp_R xs ys n i r=_
 unfold eqp_R ixF eqp_S
 simp only[El.ag_eq,conjSp]
 cases decide (i<n) with
 | false=>rfl
 | true=>
  simp only[cond_true]
  generalize (!decide ((xs.getD i.toNat eSp.dflt)=(ys.getD i.toNat eSp.dflt)))=z
  cases z <;> rfl
theorem eqp_ok:∀ b∈q00 Tryz.prog 21,lkey b=4→q02 Tryz.prog b (eqp_C eqp_I eqp_M).g:=by
 refine quk eqp_I eqp_M (fun g hi=>?_) (q06 (fun _=>rfl) (fun _=>rfl) qxy eqp_P)
 obtain ⟨xs,ys,n,i,r⟩:=g
 obtain ⟨h1,h2,h3,h4,h5⟩:=hi _ (List.mem_cons_self ..)
 have h1:n=(xs.length:Int):=h1
 have h3:0≤i:=h3
 have h5:xs.length=ys.length:=h5
 show qik xs ys n i r
 unfold qik
 simp only[decide_eq_true_eq,decide_eq_false_iff_not]
 have k0:∀ e:Nat,e<xs.length→eSp.Ok (eSp.els xs e):=fun e _=>eSp.ok_els xs e
 have k1:∀ e:Nat,e<ys.length→eSp.Ok (eSp.els ys e):=fun e _=>eSp.ok_els ys e
 clear hi
 repeat' (first | exact k0 | exact k1 | apply And.intro | intro _)
 all_goals omega
theorem eqp_run (c:q40) (b:qdd) (k1:c.2.2=((c.1).length:Int)) (k2:(c.1).length≤maxLen) (k3:eqp_K c b 0):loopF qxx eqp_M (eqp_g (0,c,b))=((scan 0 (eqp_S c) 0 (c.1) b).1,eqp_g ((scan 0 (eqp_S c) 0 (c.1) b).2.1,c,(scan 0 (eqp_S c) 0 (c.1) b).2.2)):=q0a (φ:=eqp_f) (ψ:=eqp_g) (fun _=>rfl) (fun _=>rfl) qxy eqp_P c b k1 k2 k3
def ixs_S (c:q3u) (b:qcz) (i:Int) (v:S):Ex×qcz:=bif decide (c.2.1=v) then (.ret,(),i) else (.normal,b.1,b.2)
def ixs_K (c:q3u) (b:qcz) (i:Int):Prop:=True
abbrev ixs_I (g:ixs_G):List Prop:=ixI (fun c:q3u=>c.2.2) (fun c:q3u=>c.1) ixs_K (ixs_f g)
abbrev ixs_M (g:ixs_G):Nat:=ixM (fun c:q3u=>c.2.2) (ixs_f g)
theorem ixs_P:ixP ixs_S (fun c:q3u=>c.1) ixs_K:=fun _ _ _ _ h _ _=>h
abbrev qx0 (g:ixs_G):Ex×ixs_G:=ixs_R g.1 g.2.1 g.2.2.1 g.2.2.2.1 g.2.2.2.2.1 g.2.2.2.2.2
theorem qx1 (d:Int×q3u×qcz) (hi:allP (ixI (fun c:q3u=>c.2.2) (fun c:q3u=>c.1) ixs_K d)):qx0 (ixs_g d)=((ixF 0 (fun c:q3u=>c.2.2) (fun c:q3u=>c.1) eS.dflt ixs_S d).1,ixs_g (ixF 0 (fun c:q3u=>c.2.2) (fun c:q3u=>c.1) eS.dflt ixs_S d).2):=by
 obtain ⟨i,⟨xs,s,n⟩,⟨⟨⟩,r⟩⟩:=d
 show ixs_R xs () s n i r=_
 unfold ixs_R ixF ixs_S
 simp only[El.ag_eq,conjS]
 cases decide (i<n) with
 | false=>rfl
 | true=>
  simp only[cond_true]
  generalize (decide (s=(xs.getD i.toNat eS.dflt)))=z
  cases z <;> rfl
theorem ixs_ok:∀ b∈q00 Tryz.prog 155,lkey b=2→q02 Tryz.prog b (ixs_C ixs_I ixs_M).g:=by
 refine qu7 ixs_I ixs_M (fun g hi=>?_) (q06 (fun _=>rfl) (fun _=>rfl) qx1 ixs_P)
 obtain ⟨xs,⟨⟩,s,n,i,r⟩:=g
 obtain ⟨h1,h2,h3,h4,h5⟩:=hi _ (List.mem_cons_self ..)
 have h1:n=(xs.length:Int):=h1
 have h3:0≤i:=h3
 have h5:True:=h5
 show qi2 xs () s n i r
 unfold qi2
 simp only[decide_eq_true_eq,decide_eq_false_iff_not]
 have k0:∀ e:Nat,e<xs.length→eS.Ok (eS.els xs e):=fun e _=>eS.ok_els xs e
 clear hi
 repeat' (first | exact k0 | apply And.intro | intro _)
 all_goals omega
theorem z19 (c:q3u) (b:qcz) (k1:c.2.2=((c.1).length:Int)) (k2:(c.1).length≤maxLen) (k3:ixs_K c b 0):loopF qx0 ixs_M (ixs_g (0,c,b))=((scan 0 (ixs_S c) 0 (c.1) b).1,ixs_g ((scan 0 (ixs_S c) 0 (c.1) b).2.1,c,(scan 0 (ixs_S c) 0 (c.1) b).2.2)):=q0a (φ:=ixs_f) (ψ:=ixs_g) (fun _=>rfl) (fun _=>rfl) qx1 ixs_P c b k1 k2 k3
def hsm_S (c:q3w) (b:qd5) (i:Int) (v:S):Ex×qd5:=bif decide (v=c.2) then (.ret,(),true) else (.normal,b.1,b.2)
def hsm_K (c:q3w) (b:qd5) (i:Int):Prop:=True
abbrev hsm_I (g:hsm_G):List Prop:=ixI (fun c:q3w=>(c.1.length:Int)) (fun c:q3w=>c.1) hsm_K (hsm_f g)
abbrev hsm_M (g:hsm_G):Nat:=ixM (fun c:q3w=>(c.1.length:Int)) (hsm_f g)
theorem hsm_P:ixP hsm_S (fun c:q3w=>c.1) hsm_K:=fun _ _ _ _ h _ _=>h
abbrev qxb (g:hsm_G):Ex×hsm_G:=hsm_R g.1 g.2.1 g.2.2.1 g.2.2.2.1 g.2.2.2.2
theorem qxc (d:Int×q3w×qd5) (hi:allP (ixI (fun c:q3w=>(c.1.length:Int)) (fun c:q3w=>c.1) hsm_K d)):qxb (hsm_g d)=((ixF 0 (fun c:q3w=>(c.1.length:Int)) (fun c:q3w=>c.1) eS.dflt hsm_S d).1,hsm_g (ixF 0 (fun c:q3w=>(c.1.length:Int)) (fun c:q3w=>c.1) eS.dflt hsm_S d).2):=by
 obtain ⟨i,⟨xs,s⟩,⟨⟨⟩,r⟩⟩:=d
 show hsm_R xs () s i r=_
 unfold hsm_R ixF hsm_S
 simp only[El.ag_eq,conjS]
 cases decide (i<(xs.length:Int)) with
 | false=>rfl
 | true=>
  simp only[cond_true]
  generalize (decide ((xs.getD i.toNat eS.dflt)=s))=z
  cases z <;> rfl
theorem hsm_ok:∀ b∈q00 Tryz.prog 98,lkey b=2→q02 Tryz.prog b (hsm_C hsm_I hsm_M).g:=by
 refine quc hsm_I hsm_M (fun g hi=>?_) (q06 (fun _=>rfl) (fun _=>rfl) qxc hsm_P)
 obtain ⟨xs,⟨⟩,s,i,r⟩:=g
 obtain ⟨h1,h2,h3,h4,h5⟩:=hi _ (List.mem_cons_self ..)
 have h1:(xs.length:Int)=(xs.length:Int):=h1
 have h3:0≤i:=h3
 have h5:True:=h5
 show qi8 xs () s i r
 unfold qi8
 simp only[decide_eq_true_eq,decide_eq_false_iff_not]
 have k0:∀ e:Nat,e<xs.length→eS.Ok (eS.els xs e):=fun e _=>eS.ok_els xs e
 clear hi
 repeat' (first | exact k0 | apply And.intro | intro _)
 all_goals omega
theorem z1q (c:q3w) (b:qd5) (k1:(c.1.length:Int)=((c.1).length:Int)) (k2:(c.1).length≤maxLen) (k3:hsm_K c b 0):loopF qxb hsm_M (hsm_g (0,c,b))=((scan 0 (hsm_S c) 0 (c.1) b).1,hsm_g ((scan 0 (hsm_S c) 0 (c.1) b).2.1,c,(scan 0 (hsm_S c) 0 (c.1) b).2.2)):=q0a (φ:=hsm_f) (ψ:=hsm_g) (fun _=>rfl) (fun _=>rfl) qxc hsm_P c b k1 k2 k3
theorem bytS (h:42<Tryz.prog.types.size):(Tryz.prog.types[(42:Nat)]'h).bytes=64:=by kernel_rfl
def dpt_S (c:q41) (b:qdi) (i:Int) (v:Path):Ex×qdi:=bif decide (v.fr=c.2)&&(decide (v.to=c.2)&&decide ((v.ss.length:Int) > (0:Int))) then (.ret,(),(v.ss.getD (0:Nat) eS.dflt).f,true) else (.normal,b.1,b.2.1,b.2.2)
def dpt_K (c:q41) (b:qdi) (i:Int):Prop:=True
abbrev dpt_I (g:dpt_G):List Prop:=ixI (fun c:q41=>(c.1.length:Int)) (fun c:q41=>c.1) dpt_K (dpt_f g)
abbrev dpt_M (g:dpt_G):Nat:=ixM (fun c:q41=>(c.1.length:Int)) (dpt_f g)
theorem dpt_P:ixP dpt_S (fun c:q41=>c.1) dpt_K:=fun _ _ _ _ h _ _=>h
abbrev qy1 (g:dpt_G):Ex×dpt_G:=dpt_R g.1 g.2.1 g.2.2.1 g.2.2.2.1 g.2.2.2.2.1 g.2.2.2.2.2
theorem qy2 (d:Int×q41×qdi) (hi:allP (ixI (fun c:q41=>(c.1.length:Int)) (fun c:q41=>c.1) dpt_K d)):qy1 (dpt_g d)=((ixF 0 (fun c:q41=>(c.1.length:Int)) (fun c:q41=>c.1) ePa.dflt dpt_S d).1,dpt_g (ixF 0 (fun c:q41=>(c.1.length:Int)) (fun c:q41=>c.1) ePa.dflt dpt_S d).2):=by
 obtain ⟨i,⟨xs,p⟩,⟨⟨⟩,r,o⟩⟩:=d
 show dpt_R xs () p i r o=_
 unfold dpt_R ixF dpt_S
 simp only[El.ag_eq,conjP]
 cases decide (i<(xs.length:Int)) with
 | false=>rfl
 | true=>
  simp only[cond_true]
  generalize (decide ((xs.getD i.toNat ePa.dflt).fr=p)&&(decide ((xs.getD i.toNat ePa.dflt).to=p)&&decide (((xs.getD i.toNat ePa.dflt).ss.length:Int) > (0:Int))))=z
  cases z <;> rfl
theorem dpt_ok:∀ b∈q00 Tryz.prog 52,lkey b=2→q02 Tryz.prog b (dpt_C dpt_I dpt_M).g:=by
 refine qup dpt_I dpt_M (fun g hi=>?_) (q06 (fun _=>rfl) (fun _=>rfl) qy2 dpt_P)
 obtain ⟨xs,⟨⟩,p,i,r,o⟩:=g
 obtain ⟨h1,h2,h3,h4,h5⟩:=hi _ (List.mem_cons_self ..)
 have h1:(xs.length:Int)=(xs.length:Int):=h1
 have h3:0≤i:=h3
 have h5:True:=h5
 show qis xs () p i r o
 unfold qis
 simp only[El.okL_eq,conjP,decide_eq_true_eq,decide_eq_false_iff_not,Bool.and_eq_true]
 have k0:∀ e:Nat,e<xs.length→ePa.Ok (ePa.els xs e):=fun e _=>ePa.ok_els xs e
 clear hi
 repeat' (first | exact k0 | apply And.intro | intro _)
 all_goals (first | trivial | omega | (rename_i hz;omega))
theorem dpt_run (c:q41) (b:qdi) (k1:(c.1.length:Int)=((c.1).length:Int)) (k2:(c.1).length≤maxLen) (k3:dpt_K c b 0):loopF qy1 dpt_M (dpt_g (0,c,b))=((scan 0 (dpt_S c) 0 (c.1) b).1,dpt_g ((scan 0 (dpt_S c) 0 (c.1) b).2.1,c,(scan 0 (dpt_S c) 0 (c.1) b).2.2)):=q0a (φ:=dpt_f) (ψ:=dpt_g) (fun _=>rfl) (fun _=>rfl) qy2 dpt_P c b k1 k2 k3
def gts_S (c:q3x) (b:qd6) (i:Int) (v:Path):Ex×qd6:=bif decide (v.fr=c.2.1)&&decide (v.to=c.2.2) then (.ret,(),(),v.ss) else (.normal,b.1,b.2.1,b.2.2)
def gts_K (c:q3x) (b:qd6) (i:Int):Prop:=∀ e:Nat,(c.1.getD e ePa.dflt).ss.length≤1000
abbrev gts_I (g:gts_G):List Prop:=ixI (fun c:q3x=>(c.1.length:Int)) (fun c:q3x=>c.1) gts_K (gts_f g)
abbrev gts_M (g:gts_G):Nat:=ixM (fun c:q3x=>(c.1.length:Int)) (gts_f g)
theorem gts_P:ixP gts_S (fun c:q3x=>c.1) gts_K:=fun _ _ _ _ h _ _=>h
abbrev qxf (g:gts_G):Ex×gts_G:=gts_R g.1 g.2.1 g.2.2.1 g.2.2.2.1 g.2.2.2.2.1 g.2.2.2.2.2.1 g.2.2.2.2.2.2
theorem qxg (d:Int×q3x×qd6) (hi:allP (ixI (fun c:q3x=>(c.1.length:Int)) (fun c:q3x=>c.1) gts_K d)):qxf (gts_g d)=((ixF 0 (fun c:q3x=>(c.1.length:Int)) (fun c:q3x=>c.1) ePa.dflt gts_S d).1,gts_g (ixF 0 (fun c:q3x=>(c.1.length:Int)) (fun c:q3x=>c.1) ePa.dflt gts_S d).2):=by
 obtain ⟨i,⟨xs,p,q⟩,⟨⟨⟩,⟨⟩,o⟩⟩:=d
 show gts_R xs () p () q o i=_
 unfold gts_R ixF gts_S
 simp only[El.ag_eq,conjP,ap0]
 cases decide (i<(xs.length:Int)) with
 | false=>rfl
 | true=>
  simp only[cond_true]
  generalize (decide ((xs.getD i.toNat ePa.dflt).fr=p)&&decide ((xs.getD i.toNat ePa.dflt).to=q))=z
  cases z <;> rfl
theorem gts_ok:∀ b∈q00 Tryz.prog 58,lkey b=2→q02 Tryz.prog b (gts_C gts_I gts_M).g:=by
 refine que gts_I gts_M (fun g hi=>?_) (q06 (fun _=>rfl) (fun _=>rfl) qxg gts_P)
 obtain ⟨xs,⟨⟩,p,⟨⟩,q,o,i⟩:=g
 obtain ⟨h1,h2,h3,h4,h5⟩:=hi _ (List.mem_cons_self ..)
 have h1:(xs.length:Int)=(xs.length:Int):=h1
 have h3:0≤i:=h3
 have h5:∀ e:Nat,(xs.getD e ePa.dflt).ss.length≤1000:=h5
 show qi9 xs () p () q o i
 unfold qi9
 simp only[El.okL_eq,conjP,bytS,decide_eq_true_eq,decide_eq_false_iff_not,Bool.and_eq_true]
 have k0:∀ e:Nat,e<xs.length→ePa.Ok (ePa.els xs e):=fun e _=>ePa.ok_els xs e
 clear hi
 repeat' (first | exact k0 | apply And.intro | intro _)
 all_goals (have h6:=h5 i.toNat;first | trivial | exact eS.one_els _ _ | omega | (unfold maxLen;omega))
theorem z1w (c:q3x) (b:qd6) (k1:(c.1.length:Int)=((c.1).length:Int)) (k2:(c.1).length≤maxLen) (k3:gts_K c b 0):loopF qxf gts_M (gts_g (0,c,b))=((scan 0 (gts_S c) 0 (c.1) b).1,gts_g ((scan 0 (gts_S c) 0 (c.1) b).2.1,c,(scan 0 (gts_S c) 0 (c.1) b).2.2)):=q0a (φ:=gts_f) (ψ:=gts_g) (fun _=>rfl) (fun _=>rfl) qxg gts_P c b k1 k2 k3
def ltM2:LTab Tryz.prog:=((((((LTab.nil.cons 18 4 (eqs_C eqs_I eqs_M) eqs_ok).cons 21 4 (eqp_C eqp_I eqp_M) eqp_ok).cons 155 2 (ixs_C ixs_I ixs_M) ixs_ok).cons 98 2 (hsm_C hsm_I hsm_M) hsm_ok).cons 52 2 (dpt_C dpt_I dpt_M) dpt_ok).cons 58 2 (gts_C gts_I gts_M) gts_ok)
abbrev lamM2:Lam:=ltM2.lam
theorem q4p:∀ f k L,lamM2 f k=some L→∀ b∈q00 Tryz.prog f,lkey b=k→q02 Tryz.prog b L.g:=ltM2.ok
end
end Go.Proofs.YthnojkbkojpadaaGreat

namespace Go.Proofs.YthnojkbkojpadaaGreat
noncomputable section
open Go.RowKit Go.Sx
set_option linter.unusedVariables false
abbrev aLSS:DA (List S×List S):=.cons dLS (.one dLS)
abbrev aLSp2:DA (List Spot×List Spot):=.cons dLSp (.one dLSp)
abbrev aLSs:DA (List S×S):=.cons dLS (.one dS)
abbrev aLPp:DA (List Path×Place):=.cons dLP (.one dP)
abbrev aLPpp:DA (List Path×Place×Place):=.cons dLP (.cons dP (.one dP))
abbrev dIBo:Dv (Int×Bool):=.tup (.cons dI (.one dBool))
theorem puIBo (r:Int×Bool):Pu (dIBo.enc r):=pu_tup (q1t (pu_v _) (q1t (pu_v _) qhh))
abbrev rLS:Rv (List S):=.list eS
def q29 (a:Path) (b:Path):Dv.T dI:=
 bif q6f a.fr b.fr != (0:Int) then q6f a.fr b.fr
 else bif q6f a.to b.to != (0:Int) then q6f a.to b.to else (0:Int)
theorem qrh:q04 Tryz.prog 79 aPaPa dI (fun g=>q29 g.1 g.2) (fun _=>[]):=q0l (Γ:=(PTab.gamz tabM1 [] [])) (Λ:=lamM2) (PTab.okz tabM1 [] []) q4p 100 default (fun g=>by kernel_rfl) (fun g=>by kernel_rfl)
def q4t (a:Path) (b:Path):Dv.T dI:=
 bif q81 a.fr b.fr != (0:Int) then q81 a.fr b.fr else q81 a.to b.to
theorem qtd:q04 Tryz.prog 54 aPaPa dI (fun g=>q4t g.1 g.2) (fun _=>[]):=q0l (Γ:=(PTab.gamz tabM1 [] [])) (Λ:=lamM2) (PTab.okz tabM1 [] []) q4p 100 default (fun g=>by kernel_rfl) (fun g=>by kernel_rfl)
def qms (a:List S) (b:List S):Ex ×
 eqs_G:=
 loopF (fun g=>eqs_R g.fst g.snd.fst g.snd.snd.fst g.snd.snd.snd.fst g.snd.snd.snd.snd) eqs_M (eS.ag a,eS.ag b,(↑a.length:Int),(0:Int),false)
def qs9 (a:List S) (b:List S):Dv.T dBool:=
 bif (↑a.length:Int) != (↑b.length:Int) then false
 else bif exB Ex.ret (qms a b).fst then (qms a b).snd.snd.snd.snd.snd else true
def q96 (a:List S) (b:List S):Prop:=
 ((↑a.length:Int) != (↑b.length:Int))=false→eS.okL a∧eS.okL b∧Lp.ixJ (fun c=>c.snd.snd) (fun c=>c.fst) eqs_K (eqs_f (eS.ag a,eS.ag b,(↑a.length:Int),(0:Int),false))
theorem qul (pre:DA.T aLSS→List Prop) (h:∀ g,DA.bd aLSS g→(∀ p∈pre g,p)→q96 g.1 g.2):q04 Tryz.prog 18 aLSS dBool (fun g=>qs9 g.1 g.2) pre:=q08 (Γ:=(PTab.gamz tabM1 [] [])) (Λ:=lamM2) (PTab.okz tabM1 [] []) q4p 100 default (fun g=>q96 g.1 g.2) (fun g=>by kernel_rfl) (fun g=>by kernel_rfl) h
def qil (a:List Spot) (b:List Spot):Ex ×
 eqp_G:=
 loopF (fun g=>eqp_R g.fst g.snd.fst g.snd.snd.fst g.snd.snd.snd.fst g.snd.snd.snd.snd) eqp_M (eSp.ag a,eSp.ag b,(↑a.length:Int),(0:Int),false)
def qmr (a:List Spot) (b:List Spot):Dv.T dBool:=
 bif (↑a.length:Int) != (↑b.length:Int) then false
 else bif exB Ex.ret (qil a b).fst then (qil a b).snd.snd.snd.snd.snd else true
def q7i (a:List Spot) (b:List Spot):Prop:=
 ((↑a.length:Int) != (↑b.length:Int))=false→eSp.okL a∧eSp.okL b∧Lp.ixJ (fun c=>c.snd.snd) (fun c=>c.fst) eqp_K (eqp_f (eSp.ag a,eSp.ag b,(↑a.length:Int),(0:Int),false))
theorem qs8 (pre:DA.T aLSp2→List Prop) (h:∀ g,DA.bd aLSp2 g→(∀ p∈pre g,p)→q7i g.1 g.2):q04 Tryz.prog 21 aLSp2 dBool (fun g=>qmr g.1 g.2) pre:=q08 (Γ:=(PTab.gamz tabM1 [] [])) (Λ:=lamM2) (PTab.okz tabM1 [] []) q4p 100 default (fun g=>q7i g.1 g.2) (fun g=>by kernel_rfl) (fun g=>by kernel_rfl) h
def qm9 (a:List S) (s:S):Ex ×
 ixs_G:=
 loopF (fun g=>ixs_R g.fst g.snd.fst g.snd.snd.fst g.snd.snd.snd.fst g.snd.snd.snd.snd.fst g.snd.snd.snd.snd.snd) ixs_M (eS.ag a,(),s,(↑a.length:Int),(0:Int),(0:Int))
def qfb (a:List S) (s:S):Dv.T dI:=
 bif exB Ex.ret (qm9 a s).fst then (qm9 a s).snd.snd.snd.snd.snd.snd else (-1:Int)
def q8z (a:List S) (s:S):Prop:=
 eS.okL a∧Lp.ixJ (fun c=>c.snd.snd) (fun c=>c.fst) ixs_K (ixs_f (eS.ag a,(),s,(↑a.length:Int),(0:Int),(0:Int)))
theorem qu6 (pre:DA.T aLSs→List Prop) (h:∀ g,DA.bd aLSs g→(∀ p∈pre g,p)→q8z g.1 g.2):q04 Tryz.prog 155 aLSs dI (fun g=>qfb g.1 g.2) pre:=q08 (Γ:=(PTab.gamz tabM1 [] [])) (Λ:=lamM2) (PTab.okz tabM1 [] []) q4p 100 default (fun g=>q8z g.1 g.2) (fun g=>by kernel_rfl) (fun g=>by kernel_rfl) h
def qme (a:List S) (s:S):Ex ×
 hsm_G:=
 loopF (fun g=>hsm_R g.fst g.snd.fst g.snd.snd.fst g.snd.snd.snd.fst g.snd.snd.snd.snd) hsm_M (eS.ag a,(),s,(0:Int),false)
def qrv (a:List S) (s:S):Dv.T dBool:=
 bif exB Ex.ret (qme a s).fst then (qme a s).snd.snd.snd.snd.snd else false
def q92 (a:List S) (s:S):Prop:=
 eS.okL a∧Lp.ixJ (fun c=>(↑c.fst.length:Int)) (fun c=>c.fst) hsm_K (hsm_f (eS.ag a,(),s,(0:Int),false))
theorem qub (pre:DA.T aLSs→List Prop) (h:∀ g,DA.bd aLSs g→(∀ p∈pre g,p)→q92 g.1 g.2):q04 Tryz.prog 98 aLSs dBool (fun g=>qrv g.1 g.2) pre:=q08 (Γ:=(PTab.gamz tabM1 [] [])) (Λ:=lamM2) (PTab.okz tabM1 [] []) q4p 100 default (fun g=>q92 g.1 g.2) (fun g=>by kernel_rfl) (fun g=>by kernel_rfl) h
def qn1 (a:List Path) (p:Place):Ex ×
 dpt_G:=
 loopF (fun g=>dpt_R g.fst g.snd.fst g.snd.snd.fst g.snd.snd.snd.fst g.snd.snd.snd.snd.fst g.snd.snd.snd.snd.snd) dpt_M (ePa.ag a,(),p,(0:Int),(0:Int),false)
def qsa (a:List Path) (p:Place):Dv.T dIBo:=
 bif exB Ex.ret (qn1 a p).fst then (qn1 a p).snd.snd.snd.snd.snd else ((0:Int),false)
def q98 (a:List Path) (p:Place):Prop:=
 ePa.okL a∧Lp.ixJ (fun c=>(↑c.fst.length:Int)) (fun c=>c.fst) dpt_K (dpt_f (ePa.ag a,(),p,(0:Int),(0:Int),false))
theorem qun (pre:DA.T aLPp→List Prop) (h:∀ g,DA.bd aLPp g→(∀ p∈pre g,p)→q98 g.1 g.2):q04 Tryz.prog 52 aLPp dIBo (fun g=>qsa g.1 g.2) pre:=q08 (Γ:=(PTab.gamz tabM1 [] [])) (Λ:=lamM2) (PTab.okz tabM1 [] []) q4p 100 default (fun g=>q98 g.1 g.2) (fun g=>by kernel_rfl) (fun g=>by kernel_rfl) h
def q88 (a:List Path) (p:Place) (q:Place):Ex ×
 gts_G:=
 loopF (fun g=>gts_R g.fst g.snd.fst g.snd.snd.fst g.snd.snd.snd.fst g.snd.snd.snd.snd.fst g.snd.snd.snd.snd.snd.fst g.snd.snd.snd.snd.snd.snd) gts_M (ePa.ag a,(),p,(),q,[],(0:Int))
def qrx (a:List Path) (p:Place) (q:Place):Rv.T rLS:=
 bif exB Ex.ret (q88 a p q).fst then eS.ag (q88 a p q).snd.snd.snd.snd.snd.snd.fst else []
def q93 (a:List Path) (p:Place) (q:Place):Prop:=
 ePa.okL a∧Lp.ixJ (fun c=>(↑c.fst.length:Int)) (fun c=>c.fst) gts_K (gts_f (ePa.ag a,(),p,(),q,[],(0:Int)))∧(exB Ex.ret (q88 a p q).fst=true→(q88 a p q).snd.snd.snd.snd.snd.snd.fst.length≤(q88 a p q).snd.snd.snd.snd.snd.snd.fst.length∧∀ (e:Nat),e<(q88 a p q).snd.snd.snd.snd.snd.snd.fst.length→True)
theorem qud (pre:DA.T aLPpp→List Prop) (h:∀ g,DA.bd aLPpp g→(∀ p∈pre g,p)→q93 g.1 g.2.1 g.2.2):q04 Tryz.prog 58 aLPpp (Rv.D rLS) (fun g=>qrx g.1 g.2.1 g.2.2) pre:=q1a (R:=rLS) (Γ:=(PTab.gamz tabM1 [] [])) (Λ:=lamM2) (PTab.okz tabM1 [] []) q4p 100 default (fun g=>q93 g.1 g.2.1 g.2.2) (fun g=>by kernel_rfl) (fun g=>by kernel_rfl) h
def tabM3:PTab Tryz.prog:=((tabM1).cons 79 (pconP aPaPa dI (fun g=>q29 g.1 g.2) (fun _=>[])) (q0d qrh puI)).cons 54 (pconP aPaPa dI (fun g=>q4t g.1 g.2) (fun _=>[])) (q0d qtd puI)
end
end Go.Proofs.YthnojkbkojpadaaGreat

namespace Go.Proofs.YthnojkbkojpadaaGreat
open Go.RowKit Go.Sx Go.Lp
theorem qoa {a b:Nat} (h:((a:Int) != (b:Int))=false):a=b:=by
 have:=bne_eq_false_iff_eq.1 h
 omega
theorem eqSf_c:q04 Tryz.prog 18 aLSS dBool (fun g=>decide (g.1=g.2)) (fun _=>[]):=by
 have h:=qul (fun _=>[]) fun g hb _=>by
  obtain ⟨a,b⟩:=g
  have ha:a.length≤maxLen:=hb.1.1
  show q96 a b
  unfold q96
  simp only[El.okL_eq,El.ag_eq]
  exact fun hc=>⟨trivial,trivial,ixJ0 rfl ha (qoa hc)⟩
 refine q0b h fun g hb _=>?_
 obtain ⟨a,b⟩:=g
 have ha:a.length≤maxLen:=hb.1.1
 show qs9 a b=decide (a=b)
 unfold qs9 qms
 simp only[El.ag_eq]
 cases hc:((a.length:Int) != (b.length:Int)) with
 | true=>
  have:a≠b:=fun e=>by subst e;simp at hc
  simp[this]
 | false=>
  have hl:=qoa hc
  have h1:loopF (fun g:eqs_G=>eqs_R g.1 g.2.1 g.2.2.1 g.2.2.2.1 g.2.2.2.2) eqs_M (a,b,(a.length:Int),0,false)=_:=eqs_run (a,b,(a.length:Int)) false rfl ha hl
  rw[h1]
  rcases q64 (x:=0) b eS.dflt (st:=eqs_S (a,b,(a.length:Int))) (fun _ _ _=>rfl) a 0 false (by omega) with ⟨h2,h3⟩ | ⟨h2,h3,h4⟩
  ·have h3:scan 0 (eqs_S (a,b,(a.length:Int))) 0 a false=_:=h3
   rw[h3]
   rw[List.drop_zero] at h2
   simp[h2,exB]
  ·have h3:(scan 0 (eqs_S (a,b,(a.length:Int))) 0 a false).1=_:=h3
   have h4:(scan 0 (eqs_S (a,b,(a.length:Int))) 0 a false).2.2=_:=h4
   rw[List.drop_zero] at h2
   show (bif exB .ret (scan 0 (eqs_S (a,b,(a.length:Int))) 0 a false).1 then (scan 0 (eqs_S (a,b,(a.length:Int))) 0 a false).2.2 else true)=_
   rw[h3,h4]
   simp[h2,exB]
theorem eqSpf_c:q04 Tryz.prog 21 aLSp2 dBool (fun g=>decide (g.1=g.2)) (fun _=>[]):=by
 have h:=qs8 (fun _=>[]) fun g hb _=>by
  obtain ⟨a,b⟩:=g
  have ha:a.length≤maxLen:=hb.1.1
  show q7i a b
  unfold q7i
  simp only[El.okL_eq,El.ag_eq]
  exact fun hc=>⟨trivial,trivial,ixJ0 rfl ha (qoa hc)⟩
 refine q0b h fun g hb _=>?_
 obtain ⟨a,b⟩:=g
 have ha:a.length≤maxLen:=hb.1.1
 show qmr a b=decide (a=b)
 unfold qmr qil
 simp only[El.ag_eq]
 cases hc:((a.length:Int) != (b.length:Int)) with
 | true=>
  have:a≠b:=fun e=>by subst e;simp at hc
  simp[this]
 | false=>
  have hl:=qoa hc
  have h1:loopF (fun g:eqp_G=>eqp_R g.1 g.2.1 g.2.2.1 g.2.2.2.1 g.2.2.2.2) eqp_M (a,b,(a.length:Int),0,false)=_:=eqp_run (a,b,(a.length:Int)) false rfl ha hl
  rw[h1]
  rcases q64 (x:=0) b eSp.dflt (st:=eqp_S (a,b,(a.length:Int))) (fun _ _ _=>rfl) a 0 false (by omega) with ⟨h2,h3⟩ | ⟨h2,h3,h4⟩
  ·have h3:scan 0 (eqp_S (a,b,(a.length:Int))) 0 a false=_:=h3
   rw[h3]
   rw[List.drop_zero] at h2
   simp[h2,exB]
  ·have h3:(scan 0 (eqp_S (a,b,(a.length:Int))) 0 a false).1=_:=h3
   have h4:(scan 0 (eqp_S (a,b,(a.length:Int))) 0 a false).2.2=_:=h4
   rw[List.drop_zero] at h2
   show (bif exB .ret (scan 0 (eqp_S (a,b,(a.length:Int))) 0 a false).1 then (scan 0 (eqp_S (a,b,(a.length:Int))) 0 a false).2.2 else true)=_
   rw[h3,h4]
   simp[h2,exB]
theorem qu5 (xs:List S) (s:S) (h:xs.length≤maxLen):decide (qfb xs s≥0)=decide (s∈xs):=by
 unfold qfb qm9
 simp only[El.ag_eq]
 have h1:loopF (fun g:ixs_G=>ixs_R g.1 g.2.1 g.2.2.1 g.2.2.2.1 g.2.2.2.2.1 g.2.2.2.2.2) ixs_M (xs,(),s,(xs.length:Int),0,0)=_:=z19 (xs,s,(xs.length:Int)) ((),0) rfl h trivial
 rw[h1]
 have hm:decide (s∈xs)=xs.any fun v=>decide (s=v):=by
  rw[Bool.eq_iff_iff,List.any_eq_true]
  simp
 rw[hm]
 rcases search (x:=0) (st:=ixs_S (xs,s,(xs.length:Int))) (p:=fun v=>decide (s=v)) (r:=fun i _ _=>((),i)) (fun _ _ _=>rfl) xs ((),(0:Int)) with ⟨ha,j,hj,a,_,_,h2⟩ | ⟨ha,h2⟩
 ·have h2:scan 0 (ixs_S (xs,s,(xs.length:Int))) 0 xs ((),(0:Int))=_:=h2
  rw[h2,ha]
  exact decide_eq_true hj
 ·have h2:scan 0 (ixs_S (xs,s,(xs.length:Int))) 0 xs ((),(0:Int))=_:=h2
  rw[h2,ha];rfl
theorem ixsf_c:q04 Tryz.prog 155 aLSs dI (fun g=>qfb g.1 g.2) (fun _=>[]):=qu6 _ fun g hb _=>by
 obtain ⟨a,s⟩:=g
 have ha:a.length≤maxLen:=hb.1.1
 show q8z a s
 unfold q8z
 simp only[El.okL_eq,El.ag_eq]
 exact ⟨trivial,ixJ0 rfl ha trivial⟩
theorem hsmf_c:q04 Tryz.prog 98 aLSs dBool (fun g=>decide (g.2∈g.1)) (fun _=>[]):=by
 refine q0b (qub (fun _=>[]) fun g hb _=>?_) fun g hb _=>?_
 ·obtain ⟨xs,t⟩:=g
  have hl:xs.length≤maxLen:=hb.1.1
  show q92 xs t
  unfold q92
  simp only[El.okL_eq,El.ag_eq]
  exact ⟨trivial,ixJ0 rfl hl trivial⟩
 ·obtain ⟨xs,t⟩:=g
  have h:xs.length≤maxLen:=hb.1.1
  show qrv xs t=decide (t∈xs)
  unfold qrv qme
  simp only[El.ag_eq]
  have h1:loopF (fun g:hsm_G=>hsm_R g.1 g.2.1 g.2.2.1 g.2.2.2.1 g.2.2.2.2) hsm_M (xs,(),t,0,false)=_:=z1q (xs,t) ((),false) rfl h trivial
  rw[h1]
  have hm:decide (t∈xs)=xs.any fun v=>decide (v=t):=by
   rw[Bool.eq_iff_iff,List.any_eq_true]
   simp
  rw[hm]
  rcases search (x:=0) (st:=hsm_S (xs,t)) (p:=fun v=>decide (v=t)) (r:=fun _ _ _=>((),true)) (fun _ _ _=>rfl) xs ((),false) with ⟨ha,j,hj,a,_,_,h2⟩ | ⟨ha,h2⟩
  ·have h2:scan 0 (hsm_S (xs,t)) 0 xs ((),false)=_:=h2
   rw[h2];exact ha.symm
  ·have h2:scan 0 (hsm_S (xs,t)) 0 xs ((),false)=_:=h2
   rw[h2];exact ha.symm
def depP (p:Place) (v:Path):Bool:=decide (v.fr=p)&&(decide (v.to=p)&&decide ((v.ss.length:Int) > 0))
def depL (l:List Path) (p:Place):Int×Bool:=match l.find? (depP p) with
 | some v=>((v.ss.getD 0 eS.dflt).f,true)
 | none=>(0,false)
def getP (p q:Place) (v:Path):Bool:=decide (v.fr=p)&&decide (v.to=q)
def getL (l:List Path) (p q:Place):List S:=match l.find? (getP p q) with
 | some v=>v.ss
 | none=>[]
theorem dptf_c:q04 Tryz.prog 52 aLPp dIBo (fun g=>depL g.1 g.2) (fun _=>[]):=by
 refine q0b (qun (fun _=>[]) fun g hb _=>?_) fun g hb _=>?_
 ·obtain ⟨xs,t⟩:=g
  have hl:xs.length≤maxLen:=hb.1.1
  show q98 xs t
  unfold q98
  simp only[El.okL_eq,El.ag_eq]
  exact ⟨trivial,ixJ0 rfl hl trivial⟩
 ·obtain ⟨xs,t⟩:=g
  have h:xs.length≤maxLen:=hb.1.1
  show qsa xs t=depL xs t
  unfold qsa qn1 depL
  simp only[El.ag_eq]
  have h1:loopF (fun g:dpt_G=>dpt_R g.1 g.2.1 g.2.2.1 g.2.2.2.1 g.2.2.2.2.1 g.2.2.2.2.2) dpt_M (xs,(),t,0,0,false)=_:=dpt_run (xs,t) ((),0,false) rfl h trivial
  rw[h1]
  rcases q8h (x:=0) (st:=dpt_S (xs,t)) (p:=depP t) (r:=fun v _=>((),(v.ss.getD (0:Nat) eS.dflt).f,true)) (fun _ _ _=>rfl) xs 0 ((),0,false) with ⟨a,j,h2,h3⟩ | ⟨h2,h3⟩
  ·have h3:scan 0 (dpt_S (xs,t)) 0 xs ((),0,false)=_:=h3
   rw[h3,h2];rfl
  ·have h3:scan 0 (dpt_S (xs,t)) 0 xs ((),0,false)=_:=h3
   rw[h3,h2];rfl
def Sm (l:List Path):Prop:=∀ e:Nat,(l.getD e ePa.dflt).ss.length≤1000
theorem gtsf_c:q04 Tryz.prog 58 aLPpp (Rv.D rLS) (fun g=>getL g.1 g.2.1 g.2.2) (fun g=>[Sm g.1]):=by
 refine q0b (qud (fun g=>[Sm g.1]) fun g hb hp=>?_) fun g hb hp=>?_
 ·obtain ⟨xs,p,q⟩:=g
  have hl:xs.length≤maxLen:=hb.1.1
  have hs:Sm xs:=hp _ (List.mem_cons_self ..)
  show q93 xs p q
  unfold q93
  simp only[El.okL_eq,El.ag_eq]
  exact ⟨trivial,ixJ0 rfl hl hs,fun _=>⟨Nat.le_refl _,fun _ _=>trivial⟩⟩
 ·obtain ⟨xs,p,q⟩:=g
  have h:xs.length≤maxLen:=hb.1.1
  have hs:Sm xs:=hp _ (List.mem_cons_self ..)
  show qrx xs p q=getL xs p q
  unfold qrx q88 getL
  simp only[El.ag_eq]
  have h1:loopF (fun g:gts_G=>gts_R g.1 g.2.1 g.2.2.1 g.2.2.2.1 g.2.2.2.2.1 g.2.2.2.2.2.1 g.2.2.2.2.2.2) gts_M (xs,(),p,(),q,[],0)=_:=z1w (xs,p,q) ((),(),[]) rfl h hs
  rw[h1]
  rcases q8h (x:=0) (st:=gts_S (xs,p,q)) (p:=getP p q) (r:=fun v _=>((),(),v.ss)) (fun _ _ _=>rfl) xs 0 ((),(),[]) with ⟨a,j,h2,h3⟩ | ⟨h2,h3⟩
  ·have h3:scan 0 (gts_S (xs,p,q)) 0 xs ((),(),[])=_:=h3
   rw[h3,h2];rfl
  ·have h3:scan 0 (gts_S (xs,p,q)) 0 xs ((),(),[])=_:=h3
   rw[h3,h2];rfl
end Go.Proofs.YthnojkbkojpadaaGreat
