/- Times, summaries, places, changes as plain data; a ledger as a whole. -/
import Derived.Test.YthnojkbkojpadaaGreatRows
import Derived.Test.YthnojkbkojpadaaGreatZG0561ca9d
import Derived.Test.YthnojkbkojpadaaGreatZG06943424
import Derived.Test.YthnojkbkojpadaaGreatZG07de90b3
set_option linter.unusedVariables false
set_option linter.unusedSimpArgs false
set_option linter.constructorNameAsVariable false
set_option linter.all false

namespace Go.Proofs.YthnojkbkojpadaaGreat
open Go.RowKit Go.Sx Go.Lp
structure S where
 f:Int
 k:Int
 a:Int
 n:Int
 p0:Int
 p1:Int
 p2:Int
 p3:Int
deriving DecidableEq,Inhabited
abbrev eI:El Int:=eInt .i64
abbrev I4:=Int×Int×Int×Int
abbrev e4:El I4:=.pair eI (.pair eI (.pair eI eI))
abbrev I8:=Int×Int×Int×Int×I4
def S.ofP:I8→S:=fun (f,k,a,n,p0,p1,p2,p3)=>⟨f,k,a,n,p0,p1,p2,p3⟩
def S.toP (s:S):I8:=(s.f,s.k,s.a,s.n,s.p0,s.p1,s.p2,s.p3)
def eS:El S:=.iso (.pair eI (.pair eI (.pair eI (.pair eI e4)))) S.ofP S.toP (fun _=>rfl) (fun _=>rfl)
structure T where
 e:Int
 d:Int
 l0:Int
 l1:Int
 l2:Int
 l3:Int
deriving DecidableEq,Inhabited
abbrev I6:=Int×Int×I4
def T.ofP:I6→T:=fun (e,d,l0,l1,l2,l3)=>⟨e,d,l0,l1,l2,l3⟩
def T.toP (t:T):I6:=(t.e,t.d,t.l0,t.l1,t.l2,t.l3)
def eT:El T:=.iso (.pair eI (.pair eI e4)) T.ofP T.toP (fun _=>rfl) (fun _=>rfl)
abbrev dI:Dv Int:=dInt .i64
abbrev dS:Dv S:=.agg eS
abbrev dT:Dv T:=.agg eT
abbrev dTE:Dv (T×Int):=.tup (.cons dT (.one dI))
abbrev aS:DA S:=.one dS
abbrev aT:DA T:=.one dT
abbrev aII:DA (Int×Int):=.cons dI (.one dI)
abbrev aST:DA (S×T):=.cons dS (.one dT)
abbrev aTT:DA (T×T):=.cons dT (.one dT)
theorem puI (r:Int):Pu (dI.enc r):=pu_v _
theorem puB (r:Bool):Pu (dBool.enc r):=pu_v _
theorem pus4 (a b c d:Int):Pus [.v (.int .i64 a),.v (.int .i64 b),.v (.int .i64 c),.v (.int .i64 d)]:=pus_cons (pu_v _) (pus_cons (pu_v _) (pus_cons (pu_v _) (pus_cons (pu_v _) pus_nil)))
theorem puT (r:T):Pu (dT.enc r):=pu_agg (pus_cons (pu_v _) (pus_cons (pu_v _) (pus4 _ _ _ _)))
theorem puTE (r:T×Int):Pu (dTE.enc r):=pu_tup (pus_cons (puT _) (pus_cons (pu_v _) pus_nil))
structure Place where
 node:Int
 port:Int
deriving DecidableEq,Inhabited
abbrev II:=Int×Int
def Place.ofP:II→Place:=fun (a,b)=>⟨a,b⟩
def Place.toP (p:Place):II:=(p.node,p.port)
def eP:El Place:=.iso (.pair eI eI) Place.ofP Place.toP (fun _=>rfl) (fun _=>rfl)
structure Spot where
 p:Place
 d:Int
deriving DecidableEq,Inhabited
abbrev PI:=Place×Int
def Spot.ofP:PI→Spot:=fun (a,b)=>⟨a,b⟩
def Spot.toP (s:Spot):PI:=(s.p,s.d)
def eSp:El Spot:=.iso (.pair eP eI) Spot.ofP Spot.toP (fun _=>rfl) (fun _=>rfl)
structure Edge where
 fr:Place
 to:Place
 s:S
deriving DecidableEq,Inhabited
abbrev PPS:=Place×Place×S
def Edge.ofP:PPS→Edge:=fun (a,b,c)=>⟨a,b,c⟩
def Edge.toP (x:Edge):PPS:=(x.fr,x.to,x.s)
def eE:El Edge:=.iso (.pair eP (.pair eP eS)) Edge.ofP Edge.toP (fun _=>rfl) (fun _=>rfl)
structure Path where
 fr:Place
 to:Place
 ss:List S
deriving DecidableEq,Inhabited
abbrev PPL:=Place×Place×List S
def Path.ofP:PPL→Path:=fun (a,b,c)=>⟨a,b,c⟩
def Path.toP (x:Path):PPL:=(x.fr,x.to,x.ss)
def eLS:El (List S):=eList eS
def ePa:El Path:=.iso (.pair eP (.pair eP eLS)) Path.ofP Path.toP (fun _=>rfl) (fun _=>rfl)
structure Change where
 p:Place
 t:T
 n:Int
deriving DecidableEq,Inhabited
abbrev PTI:=Place×T×Int
def Change.ofP:PTI→Change:=fun (a,b,c)=>⟨a,b,c⟩
def Change.toP (x:Change):PTI:=(x.p,x.t,x.n)
def eC:El Change:=.iso (.pair eP (.pair eT eI)) Change.ofP Change.toP (fun _=>rfl) (fun _=>rfl)
structure Ask where
 p:Place
 q:Place
 t:T
 u:T
 cs:List Change
deriving DecidableEq,Inhabited
abbrev PPTTL:=Place×Place×T×T×List Change
def Ask.ofP:PPTTL→Ask:=fun (a,b,c,d,e)=>⟨a,b,c,d,e⟩
def Ask.toP (x:Ask):PPTTL:=(x.p,x.q,x.t,x.u,x.cs)
abbrev dP:Dv Place:=.agg eP
abbrev dC:Dv Change:=.agg eC
abbrev dLP:Dv (List Path):=.list ePa
abbrev dLSp:Dv (List Spot):=.list eSp
abbrev dLC:Dv (List Change):=.list eC
abbrev dLS:Dv (List S):=.list eS
abbrev eKy:El (Place×T):=.pair eP eT
abbrev Ky:Type:=Place×T
abbrev MK:Type:=MpE Ky Int
abbrev dMP:Dv (List (Place×Int)):=.map true false eP eI
structure Ldg where
 l:List Path
 dep:List (Place×Int)
 c:List Change
abbrev LdK:Type:=List Path×List (Place×Int)×(List MK×Nat)
def layL (k:LdK):List PO:=[.cells [.k (.bool true),(Dv.list ePa).enc k.1,dMP.enc k.2.1,.mp 1] 89,.map eKy.sz eI.sz true false (.fn ((El.pair eKy (El.pair eI (eInt .i64))).els k.2.2.1)) k.2.2.1.length k.2.2.2]
def keyL (c:Change):List Int:=[c.p.node,c.p.port,c.t.e,c.t.d,c.t.l0,c.t.l1,c.t.l2,c.t.l3]
def relL (k:LdK) (g:Ldg):Prop:=k.1=g.l∧k.2.1=g.dep∧Bn k.2.2.1 k.2.2.2∧Kd k.2.2.1∧(∀ e∈k.2.2.1,e.2.1≠0∧-1099511627776≤e.2.1∧e.2.1≤1099511627776)∧k.2.2.1.length≤4096∧(g.c.Pairwise fun a b=>lexC (keyL a) (keyL b)<0)∧∀ y:Change,y∈g.c↔∃ e∈k.2.2.1,y=⟨e.1.1,e.1.2,e.2.1⟩
instance envN:Env where
 E _:=True
 mono _ _ _ _:=trivial
 Ab:=Ldg
 rep g:=layRep layL relL g
 rep_cl _ _ _ _ _ _ _ h1 h2 h:=layRep_cl h1 h2 h
end Go.Proofs.YthnojkbkojpadaaGreat

namespace Go.Proofs.YthnojkbkojpadaaGreat
open Go.RowKit Go.Sx
noncomputable def tab0:PTab Tryz.prog:=PTab.nil
end Go.Proofs.YthnojkbkojpadaaGreat

namespace Go.Proofs.YthnojkbkojpadaaGreat
open Go.RowKit Go.Sx
set_option maxRecDepth 100000
set_option linter.unusedVariables false
noncomputable def may_F (a:S):Dv.T dBool:=
 bif !(decide (a.f<(0:Int))||decide (a.f > (4:Int)))&&!(decide (a.n<(0:Int))||decide (a.n > (4:Int)))&&!(decide (a.k<(0:Int))||(decide (a.k > a.f)||decide (IntKind.i64.wrap (a.k+a.n) > (4:Int))))&&!(!(decide (a.a≥(0:Int))&&decide (a.a≤(1048576:Int)))||a.k==(0:Int)&&a.a != (0:Int)) then bif !(decide (a.p0≥(0:Int))&&decide (a.p0≤(1048576:Int)))||decide ((0:Int)≥a.n)&&a.p0 != (0:Int) then false else bif !(decide (a.p1≥(0:Int))&&decide (a.p1≤(1048576:Int)))||decide ((1:Int)≥a.n)&&a.p1 != (0:Int) then false else bif !(decide (a.p2≥(0:Int))&&decide (a.p2≤(1048576:Int)))||decide ((2:Int)≥a.n)&&a.p2 != (0:Int) then false else bif !(decide (a.p3≥(0:Int))&&decide (a.p3≤(1048576:Int)))||decide ((3:Int)≥a.n)&&a.p3 != (0:Int) then false else true
 else false
theorem may_ok:FnPure Tryz.prog 101 aS dBool (fun g=>may_F g) (fun _=>[]):=pure_of_safe (Γ:=(PTab.gamz tab0 [] [(68,0,5)])) (Λ:=noΛ) (PTab.okz tab0 [] [(68,0,5)]) noΛ_ok 100 default (fun g=>by kernel_rfl) (fun g=>by kernel_rfl)
noncomputable def rcheck_F (a:S):Dv.T dI:=
 bif decide (a.f<(0:Int))||(decide (a.f > (4:Int))||(decide (a.n<(0:Int))||(decide (a.n > (4:Int))||(decide (a.k<(0:Int))||(decide (a.k > a.f)||(decide (IntKind.i64.wrap (a.k+a.n) > (4:Int))||(decide (a.a<(0:Int))||(decide (a.a > (1048576:Int))||a.k==(0:Int)&&a.a != (0:Int))))))))) then (20:Int)
 else bif decide (a.p0<(0:Int))||(decide (a.p0 > (1048576:Int))||decide ((0:Int)≥a.n)&&a.p0 != (0:Int)) then (20:Int) else bif decide (a.p1<(0:Int))||(decide (a.p1 > (1048576:Int))||decide ((1:Int)≥a.n)&&a.p1 != (0:Int)) then (20:Int) else bif decide (a.p2<(0:Int))||(decide (a.p2 > (1048576:Int))||decide ((2:Int)≥a.n)&&a.p2 != (0:Int)) then (20:Int) else bif decide (a.p3<(0:Int))||(decide (a.p3 > (1048576:Int))||decide ((3:Int)≥a.n)&&a.p3 != (0:Int)) then (20:Int) else (0:Int)
theorem rcheck_ok:FnPure Tryz.prog 110 aS dI (fun g=>rcheck_F g) (fun _=>[]):=pure_of_safe (Γ:=(PTab.gamz tab0 [] [(68,0,5)])) (Λ:=noΛ) (PTab.okz tab0 [] [(68,0,5)]) noΛ_ok 100 default (fun g=>by kernel_rfl) (fun g=>by kernel_rfl)
noncomputable def tcheck_F (t:T):Dv.T dI:=
 bif decide (t.e<(0:Int))||(decide (t.e > (1073741824:Int))||(decide (t.d<(0:Int))||decide (t.d > (4:Int)))) then (10:Int)
 else bif decide (t.l0<(0:Int))||(decide (t.l0 > (1048576:Int))||decide ((0:Int)≥t.d)&&t.l0 != (0:Int)) then (10:Int) else bif decide (t.l1<(0:Int))||(decide (t.l1 > (1048576:Int))||decide ((1:Int)≥t.d)&&t.l1 != (0:Int)) then (10:Int) else bif decide (t.l2<(0:Int))||(decide (t.l2 > (1048576:Int))||decide ((2:Int)≥t.d)&&t.l2 != (0:Int)) then (10:Int) else bif decide (t.l3<(0:Int))||(decide (t.l3 > (1048576:Int))||decide ((3:Int)≥t.d)&&t.l3 != (0:Int)) then (10:Int) else (0:Int)
theorem tcheck_ok:FnPure Tryz.prog 60 aT dI (fun g=>tcheck_F g) (fun _=>[]):=pure_of_safe (Γ:=(PTab.gamz tab0 [] [(68,0,5)])) (Λ:=noΛ) (PTab.okz tab0 [] [(68,0,5)]) noΛ_ok 100 default (fun g=>by kernel_rfl) (fun g=>by kernel_rfl)
noncomputable def rtcheck_F (t:T):Dv.T dI:=
 bif decide (t.e<(0:Int))||(decide (t.e > (1073741824:Int))||(decide (t.d<(0:Int))||decide (t.d > (4:Int)))) then (10:Int)
 else bif decide (t.l0<(0:Int))||(decide (t.l0 > (1048576:Int))||decide ((0:Int)≥t.d)&&t.l0 != (0:Int)) then (10:Int) else bif decide (t.l1<(0:Int))||(decide (t.l1 > (1048576:Int))||decide ((1:Int)≥t.d)&&t.l1 != (0:Int)) then (10:Int) else bif decide (t.l2<(0:Int))||(decide (t.l2 > (1048576:Int))||decide ((2:Int)≥t.d)&&t.l2 != (0:Int)) then (10:Int) else bif decide (t.l3<(0:Int))||(decide (t.l3 > (1048576:Int))||decide ((3:Int)≥t.d)&&t.l3 != (0:Int)) then (10:Int) else (0:Int)
theorem rtcheck_ok:FnPure Tryz.prog 75 aT dI (fun g=>rtcheck_F g) (fun _=>[]):=pure_of_safe (Γ:=(PTab.gamz tab0 [] [(68,0,5)])) (Λ:=noΛ) (PTab.okz tab0 [] [(68,0,5)]) noΛ_ok 100 default (fun g=>by kernel_rfl) (fun g=>by kernel_rfl)
noncomputable def tab2:PTab Tryz.prog:=((((tab0).cons 101 (pconP aS dBool (fun g=>may_F g) (fun _=>[])) (conP_ok may_ok puB)).cons 110 (pconP aS dI (fun g=>rcheck_F g) (fun _=>[])) (conP_ok rcheck_ok puI)).cons 60 (pconP aT dI (fun g=>tcheck_F g) (fun _=>[])) (conP_ok tcheck_ok puI)).cons 75 (pconP aT dI (fun g=>rtcheck_F g) (fun _=>[])) (conP_ok rtcheck_ok puI)
end Go.Proofs.YthnojkbkojpadaaGreat

namespace Go.Proofs.YthnojkbkojpadaaGreat
open Go.RowKit Go.Sx
theorem wr {x:Int} (h:-9223372036854775808≤x∧x≤9223372036854775807):IntKind.i64.wrap x=x:=by
 have:=IntKind.wrap_i64 x
 omega
def S.Ok (s:S):Prop:=(0≤s.f∧s.f≤4∧0≤s.n∧s.n≤4∧0≤s.k∧s.k≤s.f∧s.k+s.n≤4)∧(0≤s.a∧s.a≤1048576∧(s.k=0→s.a=0)) ∧
  (0≤s.p0∧s.p0≤1048576∧(s.n≤0→s.p0=0))∧(0≤s.p1∧s.p1≤1048576∧(s.n≤1→s.p1=0))∧(0≤s.p2∧s.p2≤1048576∧(s.n≤2→s.p2=0))∧(0≤s.p3∧s.p3≤1048576∧(s.n≤3→s.p3=0))
theorem cond_ff {c b:Bool}:(bif c then false else b)=true↔c=false∧b=true:=by cases c <;> simp
theorem cond_bf {c b:Bool}:(bif c then b else false)=true↔c=true∧b=true:=by cases c <;> simp
theorem may_iff (s:S):may_F s=true↔s.Ok:=by
 unfold may_F S.Ok
 simp only[cond_ff,cond_bf,Bool.and_eq_true,Bool.or_eq_false_iff,Bool.not_eq_true',Bool.not_eq_false',decide_eq_false_iff_not,decide_eq_true_eq,Bool.and_eq_false_iff,bne_eq_false_iff_eq,beq_eq_false_iff_ne,beq_iff_eq,IntKind.wrap_i64,and_true,ne_eq,true_and]
 omega
theorem cond_20 {c:Bool} {x:Int}:(bif c then (20:Int) else x)=0↔c=false∧x=0:=by cases c <;> simp
theorem cond_10 {c:Bool} {x:Int}:(bif c then (10:Int) else x)=0↔c=false∧x=0:=by cases c <;> simp
theorem rcheck_iff (s:S):rcheck_F s=0↔s.Ok:=by
 unfold rcheck_F S.Ok
 simp only[cond_20,Bool.and_eq_true,Bool.or_eq_false_iff,Bool.not_eq_true',Bool.not_eq_false',decide_eq_false_iff_not,decide_eq_true_eq,Bool.and_eq_false_iff,bne_eq_false_iff_eq,beq_eq_false_iff_ne,beq_iff_eq,IntKind.wrap_i64,and_true,ne_eq,true_and]
 omega
theorem rcheck_or (s:S):rcheck_F s=0∨rcheck_F s=20:=by
 unfold rcheck_F
 repeat' (rw[Bool.cond_eq_ite];split)
 all_goals simp
theorem rcheck_eq (s:S):rcheck_F s=bif may_F s then 0 else 20:=by
 cases h:may_F s with
 | true=>exact (rcheck_iff s).2 ((may_iff s).1 h)
 | false=>
  rcases rcheck_or s with h1 | h1
  ·rw[(may_iff s).2 ((rcheck_iff s).1 h1)] at h;cases h
  ·exact h1
theorem rtcheck_eq (t:T):rtcheck_F t=tcheck_F t:=rfl
def T.Ok (t:T):Prop:=(0≤t.e∧t.e≤1073741824∧0≤t.d∧t.d≤4) ∧
  (0≤t.l0∧t.l0≤1048576∧(t.d≤0→t.l0=0))∧(0≤t.l1∧t.l1≤1048576∧(t.d≤1→t.l1=0))∧(0≤t.l2∧t.l2≤1048576∧(t.d≤2→t.l2=0))∧(0≤t.l3∧t.l3≤1048576∧(t.d≤3→t.l3=0))
theorem tcheck_iff (t:T):tcheck_F t=0↔t.Ok:=by
 unfold tcheck_F T.Ok
 simp only[cond_10,Bool.and_eq_true,Bool.or_eq_false_iff,decide_eq_false_iff_not,Bool.and_eq_false_iff,bne_eq_false_iff_eq,and_true]
 omega
end Go.Proofs.YthnojkbkojpadaaGreat

namespace Go.Proofs.YthnojkbkojpadaaGreat
open Go.RowKit Go.Sx
noncomputable def tab3:PTab Tryz.prog:=tab2
def vi (n:Int):SV:=.v (.int .i64 n)
def ki (n:Int):SV:=.k (.int .i64 n)
def encK (s:S) (k n:Nat):SV:=.agg [vi s.f,ki k,vi s.a,ki n,vi s.p0,vi s.p1,vi s.p2,vi s.p3]
def litS (s:S) (k n:Nat):S:=⟨s.f,k,s.a,n,s.p0,s.p1,s.p2,s.p3⟩
theorem litS_eq {s:S} {k n:Nat} (h1:s.k=k) (h2:s.n=n):litS s k n=s:=by unfold litS;rw[← h1,← h2]
def vv1:SV→SV
 | .k x=>.v x
 | s=>s
theorem vv1_fit {s:SV} {n:Nat} {ρ:Rh} {x:Value}:(vv1 s).fit n ρ x↔s.fit n ρ x:=by cases s <;> simp[vv1,SV.fit]
theorem fits_vv1 {n:Nat} {ρ:Rh}:∀ {xs ys:List SV} {l:List Value},xs.map vv1=ys.map vv1→SV.fits n ρ xs l→SV.fits n ρ ys l
 | [],[],_,_,h=>h
 | x :: xs,y :: ys,l,he,h=>by
  obtain ⟨a,r,rfl,ha,hr⟩:=fits_cons h
  simp only[List.map_cons,List.cons.injEq] at he
  exact ⟨vv1_fit.1 (he.1▸vv1_fit.2 ha),fits_vv1 he.2 hr⟩
 | [],_ :: _,_,he,_=>by simp at he
 | _ :: _,[],_,he,_=>by simp at he
theorem encK_fit {s:S} {k n:Nat} (h1:s.k=k) (h2:s.n=n) {m:Nat} {ρ:Rh} {x:Value} (h:(dS.enc s).fit m ρ x):(encK s k n).fit m ρ x:=by
 rw[← litS_eq h1 h2] at h
 obtain ⟨l,hx,hl⟩:=h
 exact ⟨l,hx,fits_vv1 (xs:=eS.cells (litS s k n)) rfl hl⟩
theorem encKT_fit {a:S} {t:T} {k n:Nat} (h1:a.k=k) (h2:a.n=n) {m:Nat} {ρ:Rh} {x:List Value} (h:SV.fits m ρ (aST.enc (a,t)) x):SV.fits m ρ [encK a k n,dT.enc t] x:=by
 obtain ⟨y,r,rfl,hy,hr⟩:=fits_cons h
 exact ⟨encK_fit h1 h2 hy,hr⟩
end Go.Proofs.YthnojkbkojpadaaGreat

namespace Go.Proofs.YthnojkbkojpadaaGreat
open Go.RowKit Go.Sx
noncomputable section
def els {α:Type}:Tr α→Tr α
 | .br _ _ b=>b
 | t=>t
def zT:T:=⟨0,0,0,0,0,0⟩
def S.p (s:S):List Int:=[s.p0,s.p1,s.p2,s.p3]
def T.l (t:T):List Int:=[t.l0,t.l1,t.l2,t.l3]
def mkT (e d:Int) (l:List Int):T:=⟨e,d,l.getD 0 0,l.getD 1 0,l.getD 2 0,l.getD 3 0⟩
abbrev w64 (x:Int):Int:=IntKind.i64.wrap x
theorem four {k:Nat} (h:k≤4):k=0∨k=1∨k=2∨k=3∨k=4:=by omega
abbrev g3:Gam:=tab3.gamz [] []
def applyL (k n:Nat) (s:S) (t:T):List Int:=
 match k with
 | 0=>s.p.take n
 | j+1=>(t.l.take j++[w64 (t.l.getD j 0+s.a)])++s.p.take n
def applyTr (s:S) (t:T) (k n:Nat):Tr (T×Int):=
 .br (!may_F (litS s k n)) (.ret (zT,20)) (.br (tcheck_F t != 0) (.ret (zT,tcheck_F t)) (.br (t.d != s.f) (.ret (zT,11)) (match k with
  | 0=>.ret (mkT t.e (0+n:Nat) (applyL 0 n s t),0)
  | j+1=>.br (decide (w64 (t.l.getD j 0+s.a) > 1048576)) (.ret (zT,12)) (.ret (mkT t.e (j+1+n:Nat) (applyL (j+1) n s t),0)))))
def rapplyTr (s:S) (t:T) (k n:Nat):Tr (T×Int):=
 .br (rcheck_F (litS s k n) != 0) (.ret (zT,rcheck_F (litS s k n))) (.br (rtcheck_F t != 0) (.ret (zT,rtcheck_F t)) (.br (t.d != s.f) (.ret (zT,11))
  (.br (rtcheck_F (mkT t.e (k+n:Nat) (applyL k n s t)) != 0) (.ret (zT,12)) (.ret (mkT t.e (k+n:Nat) (applyL k n s t),0)))))
theorem apply_tree (s:S) (t:T) (k n:Nat) (h1:k+n≤4):dTree Tryz.prog g3 noΛ 100 61 [encK s k n,dT.enc t] dTE=applyTr s t k n:=by
 rcases four (show k≤4 by omega) with rfl | rfl | rfl | rfl | rfl <;> rcases four (show n≤4 by omega) with rfl | rfl | rfl | rfl | rfl <;> first
  | (exfalso;omega)
  | kernel_rfl
theorem rapply_tree (s:S) (t:T) (k n:Nat) (h1:k+n≤4):dTree Tryz.prog g3 noΛ 100 67 [encK s k n,dT.enc t] dTE=rapplyTr s t k n:=by
 rcases four (show k≤4 by omega) with rfl | rfl | rfl | rfl | rfl <;> rcases four (show n≤4 by omega) with rfl | rfl | rfl | rfl | rfl <;> first
  | (exfalso;omega)
  | kernel_rfl
theorem apply_no (s:S) (t:T):dTree Tryz.prog g3 noΛ 100 61 (aST.enc (s,t)) dTE=.br (!may_F s) (.ret (zT,20)) (els (dTree Tryz.prog g3 noΛ 100 61 (aST.enc (s,t)) dTE)):=by kernel_rfl
theorem apply_no2 (s:S) (t:T):els (dTree Tryz.prog g3 noΛ 100 61 (aST.enc (s,t)) dTE)=.br (tcheck_F t != 0) (.ret (zT,tcheck_F t)) (els (els (dTree Tryz.prog g3 noΛ 100 61 (aST.enc (s,t)) dTE))):=by kernel_rfl
theorem apply_no3 (s:S) (t:T):els (els (dTree Tryz.prog g3 noΛ 100 61 (aST.enc (s,t)) dTE))=.br (t.d != s.f) (.ret (zT,11)) (els (els (els (dTree Tryz.prog g3 noΛ 100 61 (aST.enc (s,t)) dTE)))):=by kernel_rfl
theorem rapply_no (s:S) (t:T):dTree Tryz.prog g3 noΛ 100 67 (aST.enc (s,t)) dTE=.br (rcheck_F s != 0) (.ret (zT,rcheck_F s)) (els (dTree Tryz.prog g3 noΛ 100 67 (aST.enc (s,t)) dTE)):=by kernel_rfl
theorem rapply_no2 (s:S) (t:T):els (dTree Tryz.prog g3 noΛ 100 67 (aST.enc (s,t)) dTE)=.br (rtcheck_F t != 0) (.ret (zT,rtcheck_F t)) (els (els (dTree Tryz.prog g3 noΛ 100 67 (aST.enc (s,t)) dTE))):=by kernel_rfl
theorem rapply_no3 (s:S) (t:T):els (els (dTree Tryz.prog g3 noΛ 100 67 (aST.enc (s,t)) dTE))=.br (t.d != s.f) (.ret (zT,11)) (els (els (els (dTree Tryz.prog g3 noΛ 100 67 (aST.enc (s,t)) dTE)))):=by kernel_rfl
end
end Go.Proofs.YthnojkbkojpadaaGreat

namespace Go.Proofs.YthnojkbkojpadaaGreat
open Go.RowKit Go.Sx
noncomputable section
theorem p_mem {s:S} (h:s.Ok):∀ x∈s.p,0≤x∧x≤1048576:=by
 unfold S.Ok at h
 intro x hx
 simp only[S.p,List.mem_cons,List.not_mem_nil,or_false] at hx
 rcases hx with rfl | rfl | rfl | rfl <;> omega
theorem sizes {s:S} (h:s.Ok):s.k=(s.k.toNat:Int)∧s.n=(s.n.toNat:Int)∧s.k.toNat+s.n.toNat≤4:=by
 have:=h.1
 omega
theorem len_p (s:S):s.p.length=4:=rfl
theorem rc_ne (s:S):(rcheck_F s != 0)=!may_F s:=by
 rw[rcheck_eq]
 cases may_F s <;> rfl
def applyC (k n:Nat) (s:S) (t:T):T×Int:=
 match k with
 | 0=>(mkT t.e (n:Int) (s.p.take n),0)
 | j+1=>bif decide (t.l.getD j 0+s.a > 1048576) then (zT,12) else (mkT t.e ((j+1+n:Nat):Int) ((t.l.take j++[t.l.getD j 0+s.a])++s.p.take n),0)
def applyF (s:S) (t:T):T×Int:=
 bif !may_F s then (zT,20) else bif tcheck_F t != 0 then (zT,tcheck_F t) else bif t.d != s.f then (zT,11) else applyC s.k.toNat s.n.toNat s t
theorem l_mem {t:T} (h:t.Ok):∀ x∈t.l,0≤x∧x≤1048576:=by
 unfold T.Ok at h
 intro x hx
 simp only[T.l,List.mem_cons,List.not_mem_nil,or_false] at hx
 rcases hx with rfl | rfl | rfl | rfl <;> omega
theorem l_get {t:T} (h:t.Ok) (i:Nat):0≤t.l.getD i 0∧t.l.getD i 0≤1048576:=by
 by_cases hi:i<t.l.length
 ·rw[List.getD_eq_getElem?_getD,List.getElem?_eq_getElem hi]
  exact l_mem h _ (List.getElem_mem hi)
 ·rw[List.getD_eq_getElem?_getD,List.getElem?_eq_none (by omega)]
  simp
theorem len_l (t:T):t.l.length=4:=rfl
theorem okmt {e:Int} {d:Nat} {l:List Int} (hl:l.length=d) (hd:d≤4) (he:0≤e∧e≤1073741824):(mkT e d l).Ok↔∀ x∈l,0≤x∧x≤1048576:=by
 subst hl
 match l,hd with
 | [],_=>simp[mkT,T.Ok];omega
 | [x0],_=>simp[mkT,T.Ok];omega
 | [x0,x1],_=>simp[mkT,T.Ok];omega
 | [x0,x1,x2],_=>simp[mkT,T.Ok];omega
 | [x0,x1,x2,x3],_=>simp[mkT,T.Ok];omega
theorem tc_ne (t:T):(tcheck_F t != 0)=!decide (tcheck_F t=0):=by
 cases h:decide (tcheck_F t=0) <;> simp_all
theorem applyF_core {s:S} {t:T} (hs:may_F s=true) (ht:tcheck_F t=0) (he:t.d=s.f):applyF s t=applyC s.k.toNat s.n.toNat s t:=by
 unfold applyF
 rw[hs,ht,he]
 simp
theorem apply_ok:FnPure Tryz.prog 61 aST dTE (fun g=>applyF g.1 g.2) (fun _=>[]):=by
 refine pure_of_cases (Γ:=g3) (Λ:=noΛ) (tab3.okz [] []) noΛ_ok 100 fun g _ _=>?_
 obtain ⟨s,t⟩:=g
 show ∃ args,(∀ n ρ x,SV.fits n ρ (aST.enc (s,t)) x→SV.fits n ρ args x)∧(dTree Tryz.prog g3 noΛ 100 61 args dTE).Holds (·=applyF s t)
 cases hs:may_F s with
 | false=>
  refine ⟨_,fun _ _ _ h=>h,?_⟩
  rw[apply_no,hs]
  generalize els (dTree Tryz.prog g3 noΛ 100 61 (aST.enc (s,t)) dTE)=r
  refine ⟨fun _=>?_,fun hc=>(by cases hc)⟩
  show (zT,(20:Int))=applyF s t
  unfold applyF;rw[hs];rfl
 | true=>
  by_cases ht:tcheck_F t=0
  ·by_cases he:t.d=s.f
   ·have os:=(may_iff s).1 hs
    have ot:=(tcheck_iff t).1 ht
    obtain ⟨ks,ns,h4⟩:=sizes os
    refine ⟨[encK s s.k.toNat s.n.toNat,dT.enc t],fun _ _ _ h=>encKT_fit ks ns h,?_⟩
    rw[apply_tree s t _ _ h4,applyF_core hs ht he]
    unfold applyTr
    rw[litS_eq ks ns,hs,ht,he]
    refine ⟨fun hc=>(by cases hc),fun _=>⟨fun hc=>(by cases hc),fun _=>⟨fun hc=>(by simp at hc),fun _=>?_⟩⟩⟩
    have ga:=os.2.1
    generalize s.k.toNat=k at h4 ⊢
    cases k with
    | zero=>
     show (mkT t.e ((0+s.n.toNat:Nat):Int) (s.p.take s.n.toNat),(0:Int))=_
     rw[Nat.zero_add];rfl
    | succ j=>
     have hl:=l_get ot j
     have hw:w64 (t.l.getD j 0+s.a)=t.l.getD j 0+s.a:=wr (by omega)
     simp only[applyC,applyL,hw]
     exact ⟨fun h=>by rw[h];rfl,fun h=>by rw[h];rfl⟩
   ·refine ⟨_,fun _ _ _ h=>h,?_⟩
    rw[apply_no,hs]
    refine ⟨fun hc=>(by cases hc),fun _=>?_⟩
    rw[apply_no2,ht]
    refine ⟨fun hc=>(by cases hc),fun _=>?_⟩
    rw[apply_no3]
    generalize els (els (els (dTree Tryz.prog g3 noΛ 100 61 (aST.enc (s,t)) dTE)))=r
    refine ⟨fun _=>?_,fun hc=>absurd (bne_eq_false_iff_eq.1 hc) he⟩
    show (zT,(11:Int))=applyF s t
    unfold applyF;rw[hs,ht,show (t.d != s.f)=true by simpa using he];rfl
  ·refine ⟨_,fun _ _ _ h=>h,?_⟩
   rw[apply_no,hs]
   refine ⟨fun hc=>(by cases hc),fun _=>?_⟩
   rw[apply_no2]
   generalize els (els (dTree Tryz.prog g3 noΛ 100 61 (aST.enc (s,t)) dTE))=r
   refine ⟨fun hc=>?_,fun hc=>absurd (bne_eq_false_iff_eq.1 hc) ht⟩
   show (zT,tcheck_F t)=applyF s t
   unfold applyF;rw[hs,hc];rfl
theorem rt_ne (t:T):(rtcheck_F t != 0)=(tcheck_F t != 0):=rfl
theorem rapply_ok:FnPure Tryz.prog 67 aST dTE (fun g=>applyF g.1 g.2) (fun _=>[]):=by
 refine pure_of_cases (Γ:=g3) (Λ:=noΛ) (tab3.okz [] []) noΛ_ok 100 fun g _ _=>?_
 obtain ⟨s,t⟩:=g
 show ∃ args,(∀ n ρ x,SV.fits n ρ (aST.enc (s,t)) x→SV.fits n ρ args x)∧(dTree Tryz.prog g3 noΛ 100 67 args dTE).Holds (·=applyF s t)
 cases hs:may_F s with
 | false=>
  refine ⟨_,fun _ _ _ h=>h,?_⟩
  rw[rapply_no,rc_ne,hs,rcheck_eq,hs]
  generalize els (dTree Tryz.prog g3 noΛ 100 67 (aST.enc (s,t)) dTE)=r
  refine ⟨fun _=>?_,fun hc=>(by cases hc)⟩
  show (zT,(20:Int))=applyF s t
  unfold applyF;rw[hs];rfl
 | true=>
  by_cases ht:tcheck_F t=0
  ·by_cases he:t.d=s.f
   ·have os:=(may_iff s).1 hs
    have ot:=(tcheck_iff t).1 ht
    obtain ⟨ks,ns,h4⟩:=sizes os
    refine ⟨[encK s s.k.toNat s.n.toNat,dT.enc t],fun _ _ _ h=>encKT_fit ks ns h,?_⟩
    rw[rapply_tree s t _ _ h4,applyF_core hs ht he]
    unfold rapplyTr
    rw[litS_eq ks ns,rc_ne,hs,rt_ne,ht,he]
    refine ⟨fun hc=>(by cases hc),fun _=>⟨fun hc=>(by cases hc),fun _=>⟨fun hc=>(by simp at hc),fun _=>?_⟩⟩⟩
    have ga:=os.2.1
    have pm:=p_mem os
    have lm:=l_mem ot
    have te:=ot.1
    generalize s.k.toNat=k at h4 ⊢
    rw[rt_ne,tc_ne]
    cases k with
    | zero=>
     rw[Nat.zero_add]
     have hok:=okmt (e:=t.e) (d:=s.n.toNat) (l:=applyL 0 s.n.toNat s t) (by simp only[applyL,List.length_take,len_p];omega) (by omega) (by omega)
     rw[(tcheck_iff _).2 (hok.2 fun x hx=>pm x (List.mem_of_mem_take hx))]
     exact ⟨fun h=>(by simp at h),fun _=>rfl⟩
    | succ j=>
     have hl:=l_get ot j
     have hw:w64 (t.l.getD j 0+s.a)=t.l.getD j 0+s.a:=wr (by omega)
     have hok:=okmt (e:=t.e) (d:=j+1+s.n.toNat) (l:=applyL (j+1) s.n.toNat s t) (by simp only[applyL,List.length_append,List.length_take,len_p,len_l,List.length_cons,List.length_nil];omega) (by omega) (by omega)
     simp only[applyL,hw] at hok ⊢
     simp only[applyC]
     by_cases hx:t.l.getD j 0+s.a > 1048576
     ·have hno:¬ tcheck_F (mkT t.e ((j+1+s.n.toNat:Nat):Int) ((t.l.take j++[t.l.getD j 0+s.a])++s.p.take s.n.toNat))=0:=fun h=>by
       have:=hok.1 ((tcheck_iff _).1 h) _ (List.mem_append_left _ (List.mem_append_right _ (List.mem_singleton.2 rfl)))
       omega
      rw[decide_eq_false hno,decide_eq_true hx]
      exact ⟨fun _=>rfl,fun h=>(by cases h)⟩
     ·rw[(tcheck_iff _).2 (hok.2 fun x hx'=>by
       rcases List.mem_append.1 hx' with h | h
       ·rcases List.mem_append.1 h with h | h
        ·exact lm x (List.mem_of_mem_take h)
        ·rw[List.mem_singleton.1 h];omega
       ·exact pm x (List.mem_of_mem_take h)),decide_eq_false hx]
      exact ⟨fun h=>(by simp at h),fun _=>rfl⟩
   ·refine ⟨_,fun _ _ _ h=>h,?_⟩
    rw[rapply_no,rc_ne,hs]
    refine ⟨fun hc=>(by cases hc),fun _=>?_⟩
    rw[rapply_no2,rt_ne,ht]
    refine ⟨fun hc=>(by cases hc),fun _=>?_⟩
    rw[rapply_no3]
    generalize els (els (els (dTree Tryz.prog g3 noΛ 100 67 (aST.enc (s,t)) dTE)))=r
    refine ⟨fun _=>?_,fun hc=>absurd (bne_eq_false_iff_eq.1 hc) he⟩
    show (zT,(11:Int))=applyF s t
    unfold applyF;rw[hs,ht,show (t.d != s.f)=true by simpa using he];rfl
  ·refine ⟨_,fun _ _ _ h=>h,?_⟩
   rw[rapply_no,rc_ne,hs]
   refine ⟨fun hc=>(by cases hc),fun _=>?_⟩
   rw[rapply_no2,rt_ne]
   generalize els (els (dTree Tryz.prog g3 noΛ 100 67 (aST.enc (s,t)) dTE))=r
   refine ⟨fun hc=>?_,fun hc=>absurd (bne_eq_false_iff_eq.1 hc) ht⟩
   show (zT,rtcheck_F t)=applyF s t
   rw[rtcheck_eq]
   unfold applyF;rw[hs,hc];rfl
noncomputable def tab4:PTab Tryz.prog:=(tab3.cons 61 (pconP aST dTE (fun g=>applyF g.1 g.2) (fun _=>[])) (conP_ok apply_ok puTE)).cons 67 (pconP aST dTE (fun g=>applyF g.1 g.2) (fun _=>[])) (conP_ok rapply_ok puTE)
end
end Go.Proofs.YthnojkbkojpadaaGreat

namespace Go.Proofs.YthnojkbkojpadaaGreat
open Go.RowKit Go.Sx
end Go.Proofs.YthnojkbkojpadaaGreat

namespace Go.Proofs.YthnojkbkojpadaaGreat
open Go.RowKit Go.Sx
def W1 (n:Int):Prop:=(Lit.int .i64 n).wf=true
def W4 (a:I4):Prop:=W1 a.1∧W1 a.2.1∧W1 a.2.2.1∧W1 a.2.2.2
def W6 (a:I6):Prop:=W1 a.1∧W1 a.2.1∧W4 a.2.2
def W8 (a:I8):Prop:=W1 a.1∧W1 a.2.1∧W1 a.2.2.1∧W1 a.2.2.2.1∧W4 a.2.2.2.2
def S.W (s:S):Prop:=W8 s.toP
def T.W (t:T):Prop:=W6 t.toP
def WII (a:II):Prop:=W1 a.1∧W1 a.2
def Place.W (p:Place):Prop:=WII p.toP
def WLS (l:List S):Prop:=∀ s∈l,S.W s
def WPPL (a:PPL):Prop:=Place.W a.1∧Place.W a.2.1∧WLS a.2.2
def Path.W (p:Path):Prop:=WPPL p.toP
def WPTI (a:PTI):Prop:=Place.W a.1∧T.W a.2.1∧W1 a.2.2
def Change.W (p:Change):Prop:=WPTI p.toP
def WLC (l:List Change):Prop:=∀ s∈l,Change.W s
def WAsk (a:PPTTL):Prop:=Place.W a.1∧Place.W a.2.1∧T.W a.2.2.1∧T.W a.2.2.2.1∧WLC a.2.2.2.2
def Ask.W (p:Ask):Prop:=WAsk p.toP
theorem rd2:Rd Tryz.prog 2 eI W1:=rd_int Tryz.underlying2
theorem rd3:Rd Tryz.prog 3 eI W1:=rd_int Tryz.underlying3
theorem rdP:Rd Tryz.prog 24 eP Place.W:=rd_iso (Q:=WII) (rd_struct (ts:=[3,3]) Tryz.underlying24 rfl (by kernel_rfl) (rds_cons rd3 (rds_one rd3))) _ _ _ _
theorem rd4:Rd Tryz.prog 40 e4 W4:=rd_array (ts:=[2,2,2,2]) Tryz.underlying40 rfl (by kernel_rfl) (rds_cons rd2 (rds_cons rd2 (rds_cons rd2 (rds_one rd2))))
theorem rdT:Rd Tryz.prog 47 eT T.W:=rd_iso (Q:=W6) (rd_struct (ts:=[2,3,40]) Tryz.underlying47 rfl (by kernel_rfl) (rds_cons rd2 (rds_cons rd3 (rds_one rd4)))) _ _ _ _
theorem rdS:Rd Tryz.prog 42 eS S.W:=rd_iso (Q:=W8) (rd_struct (ts:=[3,3,2,3,40]) Tryz.underlying42 rfl (by kernel_rfl) (rds_cons rd3 (rds_cons rd3 (rds_cons rd2 (rds_cons rd3 (rds_one rd4)))))) _ _ _ _
theorem rdLS:Rd Tryz.prog 39 eLS WLS:=rd_slice Tryz.underlying39 (by kernel_rfl) (by decide) rdS
theorem rdPa:Rd Tryz.prog 105 ePa Path.W:=rd_iso (Q:=WPPL) (rd_struct (ts:=[24,24,39]) Tryz.underlying105 rfl (by kernel_rfl) (rds_cons rdP (rds_cons rdP (rds_one rdLS)))) _ _ _ _
theorem rdC:Rd Tryz.prog 59 eC Change.W:=rd_iso (Q:=WPTI) (rd_struct (ts:=[24,47,2]) Tryz.underlying59 rfl (by kernel_rfl) (rds_cons rdP (rds_cons rdT (rds_one rd2)))) _ _ _ _
theorem rdvC:RdV Tryz.prog 59 dC Change.W:=rdv_struct Tryz.underlying59 rdC
theorem rdvLP:RdV Tryz.prog 22 dLP (fun l=>∀ s∈l,Path.W s):=rdv_slice Tryz.underlying22 (by kernel_rfl) (by decide) rdPa
theorem Tryz.own:ownKnob Tryz.prog.godebug=none:=by kernel_rfl
theorem Tryz.laidOut:laidOutB Tryz.prog=true:=by kernel_rfl
end Go.Proofs.YthnojkbkojpadaaGreat

namespace Go.Proofs.YthnojkbkojpadaaGreat
open Go.RowKit Go.Sx Go.Lp
abbrev p0:Place:=⟨1,2⟩
abbrev pa0:Path:=⟨p0,p0,[⟨0,0,0,0,0,0,0,0⟩]⟩
def eLSC:El (List S):=eListB eS fun _=>rfl
def ePaC:El Path:=.iso (.pair eP (.pair eP eLSC)) Path.ofP Path.toP (fun _=>rfl) (fun _=>rfl)
abbrev aLPoC:DA (List Path):=.one (.listB ePaC)
abbrev aSpB:DA (List Spot):=.one (.listB eSp)
abbrev dLPE:Dv (List Path×Int):=.tup (.cons dLP (.one dI))
abbrev eSpB:El (List Spot):=eListB eSp fun _=>rfl
abbrev aGP:DA (List Spot×Place):=.cons (dPrP eSpB) (.one dP)
noncomputable def tabV9:MTab Tryz.prog:=MTab.of PTab.nil
noncomputable def usW:List (Nat×Nat×Nat):=[(111,5,3),(52,2,3),(145,4,3),(17,3,3),(112,3,3),(112,7,3),(69,6,3),(146,2,3),(114,3,3),(114,6,3)]
noncomputable abbrev tSt:Tr (List Path×Int):=dTree Tryz.prog (MTab.gamz tabV9 [(4000000,0)] usW) noΛ 100 111 (DA.enc aSpB [⟨p0,0⟩]) dLPE
noncomputable abbrev tFd:Tr Int:=dTree Tryz.prog (MTab.gamz tabV9 [(4000000,0)] usW) noΛ 100 146 (DA.enc aGP ([⟨p0,0⟩],p0)) dI
noncomputable abbrev tSp:Tr (List Spot):=dTree Tryz.prog (MTab.gamz tabV9 [(4000000,0)] usW) noΛ 100 17 (DA.enc aLPoC [pa0]) dLSp
end Go.Proofs.YthnojkbkojpadaaGreat

namespace Go.Proofs.YthnojkbkojpadaaGreat
open Go.RowKit Go.Sx Go.Lp
set_option maxRecDepth 100000
theorem al_nil:∀ p∈([]:List Prop),p:=fun _ h=>by cases h
theorem al_cons {a:Prop} {l:List Prop} (h:a) (hl:∀ p∈l,p):∀ p∈a :: l,p:=fun p hp=>by
 rcases List.mem_cons.1 hp with e | hp
 ·rw[e];exact h
 ·exact hl p hp
theorem al_one {p q:Prop} (hq:q) (h:p∈[]++[]++([]++[]++[q])):p:=by
 simp only[List.nil_append,List.mem_singleton] at h
 rw[h];exact hq
abbrev ix0:Prop:=(0:Int)≤(0:Int)∧(0:Int)<(1:Int)
theorem ix0_ok:ix0:=⟨by decide,by decide⟩
abbrev gr0 (n:Nat):Prop:=True∧True∧(1:Nat)≤(9223372036854775807:Nat)∧n≤(140737488355328:Nat)
noncomputable abbrev elSt:ElE:=ElE.app (0:Nat) (ElE.fn fun x=>[])
      (ElE.fn fun x=>
       [SV.v (Value.int IntKind.i64 (1:Int)),SV.v (Value.int IntKind.i64 (2:Int)),
        SV.v (Value.int IntKind.i64 (1:Int)),SV.v (Value.int IntKind.i64 (2:Int)),
        SV.rs (8:Nat) (1:Nat) fun e=>
         List.take (8:Nat)
          (List.drop ((0:Nat)+e * (8:Nat))
           [SV.v (Value.int IntKind.i64 (0:Int)),SV.v (Value.int IntKind.i64 (0:Int)),
            SV.k (Value.int IntKind.i64 (0:Int)),SV.k (Value.int IntKind.i64 (0:Int)),
            SV.k (Value.int IntKind.i64 (0:Int)),SV.k (Value.int IntKind.i64 (0:Int)),
            SV.k (Value.int IntKind.i64 (0:Int)),SV.k (Value.int IntKind.i64 (0:Int))])])
noncomputable abbrev elSp:ElE:=ElE.app (0:Nat) (ElE.fn fun x=>[])
      (ElE.fn fun x=>
       [SV.v (Value.int IntKind.i64 (1:Int)),SV.v (Value.int IntKind.i64 (2:Int)),
        SV.v (Value.int IntKind.i64 (0:Int))])
theorem st_asks:tSt.asksC=[ix0,ix0,true=true→ix0,ix0,ix0,ix0,gr0 56,1≤1,∀ e:Nat,e<1→ePa.Ok (elSt.at e)]:=by kernel_rfl
theorem st_ev:tSt.evC default=([pa0],0):=by kernel_rfl
theorem sp_asks:tSp.asksC=[ix0,ix0,ix0,ix0,ix0,gr0 24,1≤1,∀ e:Nat,e<1→eSp.Ok (elSp.at e)]:=by kernel_rfl
theorem sp_ev:tSp.evC default=[⟨p0,0⟩]:=by kernel_rfl
theorem fd_asks:tFd.asksC=[ix0]:=by kernel_rfl
theorem fd_ev:tFd.evC default=0:=by kernel_rfl
theorem elSt_ok:∀ e:Nat,e<1→ePa.Ok (elSt.at e):=fun e he=>by
 obtain rfl:e=0:=by omega
 refine El.okP (A:=ePa) fun p hp=>al_one (fun e he=>?_) hp
 obtain rfl:e=0:=by omega
 exact El.okP (A:=eS) trivial
theorem elSp_ok:∀ e:Nat,e<1→eSp.Ok (elSp.at e):=fun e he=>by
 obtain rfl:e=0:=by omega
 exact El.okP (A:=eSp) trivial
theorem st_ok:FnPure Tryz.prog 111 aSpB dLPE (fun _=>([pa0],0)) (fun g=>[g=[⟨p0,0⟩]]):=pure_of_tree (MTab.okz tabV9 [(4000000,0)] usW) noΛ_ok 100 fun g _ hp=>by
 obtain rfl:g=[⟨p0,0⟩]:=hp _ (List.mem_cons_self ..)
 have h:=Tr.asksC_holds (t:=tSt) default (by rw[st_asks];exact al_cons ix0_ok <| al_cons ix0_ok <| al_cons (fun _=>ix0_ok) <| al_cons ix0_ok <| al_cons ix0_ok <| al_cons ix0_ok <| al_cons ⟨trivial,trivial,by omega,by omega⟩ <| al_cons (Nat.le_refl _) <| al_cons elSt_ok al_nil)
 rw[st_ev] at h
 exact h
theorem sp_ok:FnPure Tryz.prog 17 aLPoC dLSp (fun _=>[⟨p0,0⟩]) (fun g=>[g=[pa0]]):=pure_of_tree (MTab.okz tabV9 [(4000000,0)] usW) noΛ_ok 100 fun g _ hp=>by
 obtain rfl:g=[pa0]:=hp _ (List.mem_cons_self ..)
 have h:=Tr.asksC_holds (t:=tSp) default (by rw[sp_asks];exact al_cons ix0_ok <| al_cons ix0_ok <| al_cons ix0_ok <| al_cons ix0_ok <| al_cons ix0_ok <| al_cons ⟨trivial,trivial,by omega,by omega⟩ <| al_cons (Nat.le_refl _) <| al_cons elSp_ok al_nil)
 rw[sp_ev] at h
 exact h
theorem fd_ok:FnPure Tryz.prog 146 aGP dI (fun _=>0) (fun g=>[g=([⟨p0,0⟩],p0)]):=pure_of_tree (MTab.okz tabV9 [(4000000,0)] usW) noΛ_ok 100 fun g _ hp=>by
 obtain rfl:g=([⟨p0,0⟩],p0):=hp _ (List.mem_cons_self ..)
 have h:=Tr.asksC_holds (t:=tFd) default (by rw[fd_asks];exact al_cons ix0_ok al_nil)
 rw[fd_ev] at h
 exact h
noncomputable def tabV10:MTab Tryz.prog:=MTab.of (((PTab.nil.cons 111 (pconR aSpB dLPE (fun _=>([pa0],0)) (fun g=>[g=[⟨p0,0⟩]])) (conR_ok st_ok)).cons 17 (pconR aLPoC dLSp (fun _=>[⟨p0,0⟩]) (fun g=>[g=[pa0]])) (conR_ok sp_ok)).cons 146 (pconP aGP dI (fun _=>0) (fun g=>[g=([⟨p0,0⟩],p0)])) (conP_ok fd_ok puI))
noncomputable abbrev tOf:Tr (List Path×Int):=dTree Tryz.prog (MTab.gamz tabV10 [(4000000,0)] usW) noΛ 100 69 (DA.enc (.cons (.listB eSp) (.one (.listB eE))) ([⟨p0,0⟩],[])) dLPE
end Go.Proofs.YthnojkbkojpadaaGreat

namespace Go.Proofs.YthnojkbkojpadaaGreat
open Go.RowKit Go.Sx Go.Lp
set_option maxRecDepth 100000
abbrev as1:Prop:=(0:Int)≤(1:Int)∧(1:Int)≤(1:Int)∧(1:Int)≤(9223372036854775807:Int)∧(24:Int)≤(140737488355328:Int)
theorem as1_ok:as1:=by unfold as1;omega
abbrev as2:Prop:=(([⟨p0,0⟩],p0):List Spot×Place)=([⟨p0,0⟩],p0)
theorem as2_ok:as2:=rfl
abbrev as3:Prop:=True∧(∀ (e:Nat),e<(1:Nat)→(eS.els [S.mk (0:Int) (0:Int) (0:Int) (0:Int) (0:Int) (0:Int) (0:Int) (0:Int)] e).all SV.one=true)∧(1:Nat)≤(9223372036854775807:Nat)∧(64:Nat)≤(140737488355328:Nat)
theorem as3_ok:as3:=⟨trivial,fun e he=>by
 obtain rfl:e=0:=by omega
 rfl,by omega,by omega⟩
theorem gr0_ok {n:Nat} (h:n≤140737488355328):gr0 n:=⟨trivial,trivial,by omega,h⟩
abbrev as5:Prop:=[pa0]=[pa0]
theorem as5_ok:as5:=rfl
abbrev as6:Prop:=([⟨p0,0⟩]:List Spot)=[⟨p0,0⟩]
theorem as6_ok:as6:=rfl
abbrev as4:Prop:=∀ (e:Nat),e<(1:Nat)→ePa.Ok ((ElE.app (0:Nat) (ElE.fn fun x=>[]) (ElE.fn fun x=>[SV.v (Value.int IntKind.i64 (1:Int)),SV.v (Value.int IntKind.i64 (2:Int)),SV.v (Value.int IntKind.i64 (1:Int)),SV.v (Value.int IntKind.i64 (2:Int)),SV.rs (8:Nat) (1:Nat) (ElE.app (0:Nat) (ElE.fn fun x=>[]) (ElE.fn (eS.els [S.mk (0:Int) (0:Int) (0:Int) (0:Int) (0:Int) (0:Int) (0:Int) (0:Int)]))).at])).at e)
theorem as4_ok:as4:=fun e he=>by
 obtain rfl:e=0:=by omega
 refine El.okP (A:=ePa) fun p hp=>al_one (fun e he=>?_) hp
 obtain rfl:e=0:=by omega
 exact El.okP (A:=eS) trivial
end Go.Proofs.YthnojkbkojpadaaGreat

namespace Go.Proofs.YthnojkbkojpadaaGreat
open Go.RowKit Go.Sx Go.Lp
set_option maxRecDepth 100000
abbrev t3:T:=⟨3,0,0,0,0,0⟩
abbrev ch0:Change:=⟨p0,t3,1⟩
abbrev ch1:Change:=⟨p0,t3,-1⟩
abbrev aLPcC:DA (List Path×Place×List Change):=.cons (.listB ePaC) (.cons dP (.one (.listB eC)))
abbrev aLPcD:DA (List Path×Place×List Change):=.cons (.listB ePaC) (.cons dP (.one (.list eC)))
abbrev dLTE:Dv (List T×Int):=.tup (.cons (.list eT) (.one dI))
noncomputable def tabE0:MTab Tryz.prog:=MTab.of PTab.nil
noncomputable abbrev tCk:Tr Int:=dTree Tryz.prog (MTab.gamz tabE0 [(4000000,0)] []) noΛ 100 33 (DA.enc aLPoC [pa0]) dI
abbrev cLd0:CT LdK:=.iso (.pair (.kb true) (.pair (.fz 105 ePa) (.pair (.fzm true false eP eI) (.map true false eKy eI)))) (fun g=>g.2) (fun k=>((),k)) (fun _=>rfl)
abbrev dLK0:LdK:=([],[],[],0)
abbrev trN0:TR (Option LdK×Int):=TR.tup (CT.pair (CT.opt (CT.ptr 89 cLd0) dLK0 rfl) (CT.pl eI))
abbrev aLS1:DA (List S):=.one dLS
abbrev aTs:DA (List T):=.one (.list eT)
abbrev aLP1:DA (List Path):=.one dLP
end Go.Proofs.YthnojkbkojpadaaGreat

namespace Go.Proofs.YthnojkbkojpadaaGreat
open Go.RowKit Go.Sx
set_option maxRecDepth 100000
set_option linter.unusedVariables false
noncomputable def cln1_F (l:List S):Rv.T (.list eS):=
 List.map (fun x=>eS.get []) (List.range (min ((0:Nat)+l.length) (0:Nat)))++eS.lst ((0:Nat)+l.length - (0:Nat)) (eS.els l)
def cln1_side (l:List S):Prop:=
 ∀ (cs:List Nat),(cs.isEmpty=false→l.length=(0:Nat))→((false != !cs.isEmpty)=true→∀ (d:List S),[]=List.map (fun x=>eS.get []) (List.range (min ((0:Nat)+l.length) (0:Nat)))++eS.lst ((0:Nat)+l.length - (0:Nat)) (eS.els l))∧((false != !cs.isEmpty)=false→((0:Nat)≤(0:Nat)∧(∀ (e:Nat),e<l.length→(eS.els l e).all SV.one=true)∧(0:Nat)+l.length≤maxLen∧((0:Nat)+l.length) * Tryz.prog.types[(42:Nat)].bytes≤(140737488355328:Nat))∧(0:Nat)+l.length≤(0:Nat)+l.length∧(∀ (e:Nat),e<min ((0:Nat)+l.length) (0:Nat)→eS.OkP [])∧(∀ (e:Nat),e<(0:Nat)+l.length - (0:Nat)→True)∧∀ (d:List S),List.map (fun x=>eS.get []) (List.range (min ((0:Nat)+l.length) (0:Nat)))++eS.lst ((0:Nat)+l.length - (0:Nat)) (eS.els l)=List.map (fun x=>eS.get []) (List.range (min ((0:Nat)+l.length) (0:Nat)))++eS.lst ((0:Nat)+l.length - (0:Nat)) (eS.els l))
theorem cln1_okS (pre:DA.T aLS1→List Prop) (h:∀ g,DA.bd aLS1 g→(∀ p∈pre g,p)→cln1_side g):FnPure Tryz.prog 56 aLS1 (Rv.D (.list eS)) (fun g=>cln1_F g) pre:=res_of_side (R:=(.list eS)) (Γ:=(MTab.gamz tabE0 [] [])) (Λ:=noΛ) (MTab.okz tabE0 [] []) noΛ_ok 100 default (fun g=>cln1_side g) (fun g=>by kernel_rfl) (fun g=>by kernel_rfl) h
theorem clp1 (xs:List Path):wTree Tryz.prog (PTab.gamz (PTab.nil:PTab Tryz.prog) [] []) noΛ 100 87 105 ePa (aLP1.enc xs) =
 Tr.all fun cs=>Tr.giv (cs.isEmpty=false→xs.length=(0:Nat)) (Tr.br (false != !cs.isEmpty) (Tr.ret []) (Tr.ask ((0:Nat)≤(0:Nat)∧(∀ (e:Nat),e<xs.length→(ePa.els xs e).all SV.one=true)∧(0:Nat)+xs.length≤maxLen∧((0:Nat)+xs.length) * Tryz.prog.types[(105:Nat)].bytes≤(140737488355328:Nat)) (Tr.ask ((0:Nat)+xs.length=(0:Nat)+xs.length) (Tr.ask (∀ (e:Nat),e<min ((0:Nat)+xs.length) (0:Nat)→ePa.OkP []) (Tr.ask (∀ (e:Nat),e<(0:Nat)+xs.length - (0:Nat)→∀ (p:Prop),p∈[]++[]++([]++[]++[∀ (e_1:Nat),e_1<(xs.getD e ePa.dflt).ss.length→eS.Ok (eS.els (xs.getD e ePa.dflt).ss e_1)])→p) (Tr.ret (List.map (fun x=>ePa.get []) (List.range (min ((0:Nat)+xs.length) (0:Nat)))++ePa.lst ((0:Nat)+xs.length - (0:Nat)) (ePa.els xs)))))))):=by kernel_rfl
theorem clt1 (xs:List T):wTree Tryz.prog (PTab.gamz (PTab.nil:PTab Tryz.prog) [] []) noΛ 100 103 47 eT (aTs.enc xs) =
 Tr.all fun cs=>Tr.giv (cs.isEmpty=false→xs.length=(0:Nat)) (Tr.br (false != !cs.isEmpty) (Tr.ret []) (Tr.ask ((0:Nat)≤(0:Nat)∧(∀ (e:Nat),e<xs.length→(eT.els xs e).all SV.one=true)∧(0:Nat)+xs.length≤maxLen∧((0:Nat)+xs.length) * Tryz.prog.types[(47:Nat)].bytes≤(140737488355328:Nat)) (Tr.ask ((0:Nat)+xs.length=(0:Nat)+xs.length) (Tr.ask (∀ (e:Nat),e<min ((0:Nat)+xs.length) (0:Nat)→eT.OkP []) (Tr.ask (∀ (e:Nat),e<(0:Nat)+xs.length - (0:Nat)→True) (Tr.ret (List.map (fun x=>eT.get []) (List.range (min ((0:Nat)+xs.length) (0:Nat)))++eT.lst ((0:Nat)+xs.length - (0:Nat)) (eT.els xs)))))))):=by kernel_rfl
end Go.Proofs.YthnojkbkojpadaaGreat

namespace Go.Proofs.YthnojkbkojpadaaGreat
open Go.RowKit Go.Sx Go.Lp
set_option maxRecDepth 100000
theorem cln1_c:FnPure Tryz.prog 56 aLS1 (Rv.D (.list eS)) (fun l=>l) (fun l=>[l.length≤1000000]):=by
 have byt:∀ h:42<Tryz.prog.types.size,(Tryz.prog.types[(42:Nat)]'h).bytes=64:=fun h=>by kernel_rfl
 have ap:∀ l:List S,List.map (fun _=>eS.get []) (List.range (min (0+l.length) 0))++eS.lst (0+l.length - 0) (eS.els l)=l:=fun l=>by simp[El.lst_els]
 refine pure_congr (cln1_okS (fun l=>[l.length≤1000000]) fun l hb hp=>?_) fun l hb hp=>?_
 ·have hl:l.length≤1000000:=hp _ (List.mem_cons_self ..)
  show cln1_side l
  unfold cln1_side
  simp only[ap,byt]
  intro cs hcs
  refine ⟨fun h=>?_,fun h=>?_⟩
  ·have:cs.isEmpty=false:=by cases hc:cs.isEmpty <;> simp_all
   have:=List.eq_nil_of_length_eq_zero (hcs this)
   subst this
   intro _;rfl
  ·repeat' (first | apply And.intro | intro _)
   all_goals first | trivial | exact eS.one_els _ _ | omega | (unfold maxLen;omega) | exact El.ok_els _ _ _
 ·show cln1_F l=l
  unfold cln1_F
  exact ap l
theorem clp1_c:FnRow Tryz.prog 87 105 ePa aLP1 (fun l=>l) (fun l=>[l.length≤1000000]):=
 row_of_tree (PTab.okz (PTab.nil:PTab Tryz.prog) [] []) noΛ_ok 100 fun l _ hp=>by
  have byt:∀ h:105<Tryz.prog.types.size,(Tryz.prog.types[(105:Nat)]'h).bytes=56:=fun h=>by kernel_rfl
  have h:l.length≤1000000:=hp _ (List.mem_cons_self ..)
  rw[clp1]
  intro cs hcs
  refine ⟨fun hc=>?_,fun _=>?_⟩
  ·have hx:l=[]:=List.length_eq_zero_iff.1 (hcs (by cases hh:cs.isEmpty with
    | true=>rw[hh] at hc;cases hc
    | false=>rfl))
   exact hx.symm
  ·refine ⟨⟨Nat.le_refl _,fun e _=>rfl,by unfold maxLen;omega,by rw[byt];omega⟩,rfl,fun e he=>absurd he (by omega),fun e _ p hp=>?_,?_⟩
   ·simp only[List.append_nil,List.nil_append,List.mem_singleton] at hp
    rw[hp]
    exact fun e' _=>El.ok_els _ _ _
   ·show _++_=l
    simp[El.lst_els]
theorem clt1_c:FnRow Tryz.prog 103 47 eT aTs (fun l=>l) (fun l=>[l.length≤1000000]):=
 row_of_tree (PTab.okz (PTab.nil:PTab Tryz.prog) [] []) noΛ_ok 100 fun l _ hp=>by
  have byt:∀ h:47<Tryz.prog.types.size,(Tryz.prog.types[(47:Nat)]'h).bytes=48:=fun h=>by kernel_rfl
  have h:l.length≤1000000:=hp _ (List.mem_cons_self ..)
  rw[clt1]
  intro cs hcs
  refine ⟨fun hc=>?_,fun _=>?_⟩
  ·have hx:l=[]:=List.length_eq_zero_iff.1 (hcs (by cases hh:cs.isEmpty with
    | true=>rw[hh] at hc;cases hc
    | false=>rfl))
   exact hx.symm
  ·refine ⟨⟨Nat.le_refl _,fun e _=>rfl,by unfold maxLen;omega,by rw[byt];omega⟩,rfl,fun e he=>absurd he (by omega),fun e _=>?_,?_⟩
   ·first | trivial | exact El.ok_els _ _ _
   ·show _++_=l
    simp[El.lst_els]
noncomputable def tabV22a:MTab Tryz.prog:=((MTab.of PTab.nil).consM 56 (fconR aLS1 (Rv.D (.list eS)) (fun l=>l) (fun l=>[l.length≤1000000])) (fconR_ok cln1_c)).consM 87 (bconRow 105 ePa aLP1 (fun l=>l) (fun l=>[l.length≤1000000])) (conRow_ok clp1_c)
noncomputable def tabV22b:MTab Tryz.prog:=tabV22a.consM 103 (bconRowV 47 eT aTs (fun l=>l) (fun l=>[l.length≤1000000])) (conRowV_ok (fun a=>pus_cons (pu_v _) (pus_cons (pu_v _) (pus4 _ _ _ _))) clt1_c)
abbrev MPd0:Type:=List (Place×Int×Int)×Nat
end Go.Proofs.YthnojkbkojpadaaGreat

namespace Go.Proofs.YthnojkbkojpadaaGreat
open Go.RowKit Go.Sx Go.Lp
set_option maxRecDepth 100000
abbrev ck0:Prop:=(0:Int)≤(0:Int)∧(0:Int)<(1:Int)
theorem ck0p:ck0:=by decide
abbrev ck1:Prop:=∀ (e:Nat),e<(0:Nat)→(4:Nat)=(4:Nat)
theorem ck1p:ck1:=fun _ _=>rfl
abbrev ck2:Prop:=∀ (e:Nat),e<(0:Nat)→True
theorem ck2p:ck2:=fun _ _=>trivial
abbrev ck3:Prop:=∀ (e:Nat),e<(1:Nat)→(4:Nat)=(4:Nat)
theorem ck3p:ck3:=fun _ _=>rfl
abbrev ck4:Prop:=∀ (e:Nat),e<(1:Nat)→True
theorem ck4p:ck4:=fun _ _=>trivial
abbrev ck5:Prop:=True∧True∧(1:Nat)≤(9223372036854775807:Nat)∧(64:Nat)≤(140737488355328:Nat)
theorem ck5p:ck5:=⟨trivial,trivial,by decide,by decide⟩
abbrev ck6:Prop:=(0:Int)≤(1:Int)∧(1:Int)<(256:Int)
theorem ck6p:ck6:=by decide
abbrev ck7:Prop:=(0:Nat)<(1:Nat)
theorem ck7p:ck7:=by decide
theorem ck_h:(tCk).Holds (·=(0:Int)):=Tr.hn_holds (by rw[show (tCk).hn (0:Int)=(ck0∧ck0∧ck1∧ck2∧ck0∧ck3∧ck4∧ck3∧ck4∧ck0∧ck0∧ck0∧ck0∧ck0∧ck0∧ck5∧ck6∧ck0∧ck7∧ck0∧ck0∧(0:Int)=(0:Int)) by kernel_rfl];exact ⟨ck0p,ck0p,ck1p,ck2p,ck0p,ck3p,ck4p,ck3p,ck4p,ck0p,ck0p,ck0p,ck0p,ck0p,ck0p,ck5p,ck6p,ck0p,ck7p,ck0p,ck0p,rfl⟩)
theorem rck1:FnPure Tryz.prog 33 aLPoC dI (fun _=>0) (fun g=>[g=[pa0]]):=pure_of_tree (MTab.okz tabE0 [(4000000,0)] []) noΛ_ok 100 fun g _ hp=>by
 obtain rfl:g=[pa0]:=hp _ (List.mem_cons_self ..)
 exact ck_h
noncomputable def tabV24:MTab Tryz.prog:=tabV22b.cons 33 (pconP aLPoC dI (fun _=>0) (fun g=>[g=[pa0]])) (conP_ok rck1 puI)
end Go.Proofs.YthnojkbkojpadaaGreat

namespace Go.Proofs.YthnojkbkojpadaaGreat
open Go.RowKit Go.Sx Go.Lp
noncomputable abbrev tDp:Tr (Unit×MPd0):=tTree Tryz.prog (MTab.gamz tabV24 [(4000000,0)] []) noΛ 100 88 TA.nil (trM true false eP eI) () (DA.enc aLPoC [pa0])
noncomputable abbrev tFr1:Tr (List T×Int):=dTree Tryz.prog (MTab.gamz tabV24 [(4000000,0)] []) noΛ 100 22 (DA.enc aLPcC ([pa0],p0,[ch0])) dLTE
noncomputable abbrev tFr0:Tr (List T×Int):=dTree Tryz.prog (MTab.gamz tabV24 [(4000000,0)] []) noΛ 100 22 (DA.enc aLPcD ([pa0],p0,[])) dLTE
end Go.Proofs.YthnojkbkojpadaaGreat

namespace Go.Proofs.YthnojkbkojpadaaGreat
open Go.RowKit Go.Sx Go.Lp
set_option maxRecDepth 100000
abbrev fd0:Prop:=[Path.mk (Place.mk (1:Int) (2:Int)) (Place.mk (1:Int) (2:Int)) [S.mk (0:Int) (0:Int) (0:Int) (0:Int) (0:Int) (0:Int) (0:Int) (0:Int)]]=[Path.mk (Place.mk (1:Int) (2:Int)) (Place.mk (1:Int) (2:Int)) [S.mk (0:Int) (0:Int) (0:Int) (0:Int) (0:Int) (0:Int) (0:Int) (0:Int)]]
theorem fd0p:fd0:=rfl
abbrev fd1:Prop:=(0:Int)≤(0:Int)∧(0:Int)<(1:Int)
theorem fd1p:fd1:=by decide
abbrev fd2:Prop:=∀ (e:Nat),e<(0:Nat)→(4:Nat)=(4:Nat)
theorem fd2p:fd2:=fun _ _=>rfl
abbrev fd3:Prop:=∀ (e:Nat),e<(0:Nat)→True
theorem fd3p:fd3:=fun _ _=>trivial
abbrev fd4:Prop:=∀ (e:Nat),e<(1:Nat)→(4:Nat)=(4:Nat)
theorem fd4p:fd4:=fun _ _=>rfl
abbrev fd5:Prop:=∀ (e:Nat),e<(1:Nat)→True
theorem fd5p:fd5:=fun _ _=>trivial
abbrev fd6:Prop:=∀ (e:Nat),e<(0:Nat)→(6:Nat)=(6:Nat)
theorem fd6p:fd6:=fun _ _=>rfl
abbrev fd7:Prop:=True∧True∧(1:Nat)≤(9223372036854775807:Nat)∧(16:Nat)≤(140737488355328:Nat)
theorem fd7p:fd7:=⟨trivial,trivial,by decide,by decide⟩
abbrev fd8:Prop:=∀ (e:Nat),e<(1:Nat)→(6:Nat)=(6:Nat)
theorem fd8p:fd8:=fun _ _=>rfl
abbrev fd9:Prop:=True∧True∧(1:Nat)≤(9223372036854775807:Nat)∧(48:Nat)≤(140737488355328:Nat)
theorem fd9p:fd9:=⟨trivial,trivial,by decide,by decide⟩
abbrev fd10:Prop:=(0:Nat)<(1:Nat)
theorem fd10p:fd10:=by decide
abbrev fd11:Prop:=(1:Nat)≤(1:Nat)
theorem fd11p:fd11:=by decide
abbrev fd12:Prop:=∀ (e:Nat),e<(1:Nat)→eT.Ok ((ElE.app (0:Nat) (ElE.fn fun x=>[]) (ElE.fn fun x=>[SV.v (Value.int IntKind.i64 (3:Int)),SV.v (Value.int IntKind.i64 (0:Int)),SV.k (Value.int IntKind.i64 (0:Int)),SV.k (Value.int IntKind.i64 (0:Int)),SV.k (Value.int IntKind.i64 (0:Int)),SV.k (Value.int IntKind.i64 (0:Int))])).at e)
theorem fd12p:fd12:=fun e he=>by obtain rfl:e=0:=(by omega);exact El.okP (A:=eT) trivial
abbrev fd13:Prop:=(1:Nat)≤(1000000:Nat)
theorem fd13p:fd13:=by decide
abbrev fd14:Prop:=(0:Int)≤(1:Int)∧(1:Int)<(256:Int)
theorem fd14p:fd14:=by decide
abbrev fd15:Prop:=∀ (e:Nat),e<(1:Nat)→eT.Ok ((ElE.app (0:Nat) (ElE.fn fun x=>[]) (ElE.fn fun x=>[SV.v (Value.int IntKind.i64 (3:Int)),SV.v (Value.int IntKind.i64 (0:Int)),SV.v (Value.int IntKind.i64 (0:Int)),SV.v (Value.int IntKind.i64 (0:Int)),SV.v (Value.int IntKind.i64 (0:Int)),SV.v (Value.int IntKind.i64 (0:Int))])).at e)
theorem fd15p:fd15:=fun e he=>by obtain rfl:e=0:=(by omega);exact El.okP (A:=eT) trivial
abbrev fd16:Prop:=(0:Nat)≤(1000000:Nat)
theorem fd16p:fd16:=by decide
abbrev fd17:Prop:=(0:Int)≤(0:Int)∧(0:Int)<(256:Int)
theorem fd17p:fd17:=by decide
abbrev fd18:Prop:=True∧True∧(1:Nat)≤(9223372036854775807:Nat)∧(24:Nat)≤(140737488355328:Nat)
theorem fd18p:fd18:=⟨trivial,trivial,by decide,by decide⟩
abbrev fd19:Prop:=True
theorem fd19p:fd19:=trivial
noncomputable abbrev fr1hv:=(([t3],0):List T×Int)
theorem fr1h:(tFr1).Holds (·=(([t3],0):List T×Int)):=Tr.hn_holds (by rw[show (tFr1).hn (([t3],0):List T×Int)=(fd0∧fd1∧fd1∧fd2∧fd3∧fd4∧fd5∧fd1∧fd6∧fd3∧(fd7∧fd1∧fd4∧fd5∧fd8∧fd5∧fd1∧fd9∧fd1∧fd10∧fd1∧fd10∧fd1∧fd10∧fd11∧fd12∧fd13∧fd14∧fd1∧fd10∧fd9∧fd11∧fd15∧fr1hv=fr1hv)∧∀ (_:Nat) (_:List Nat),fd7∧fd1∧fd4∧fd5∧fd8∧fd5∧fd1∧fd9∧fd1∧fd10∧fd1∧fd10∧fd1∧fd10∧fd11∧fd12∧fd13∧fd14∧fd1∧fd10∧fd9∧fd11∧fd15∧fr1hv=fr1hv) by kernel_rfl];exact ⟨fd0p,fd1p,fd1p,fd2p,fd3p,fd4p,fd5p,fd1p,fd6p,fd3p,⟨fd7p,fd1p,fd4p,fd5p,fd8p,fd5p,fd1p,fd9p,fd1p,fd10p,fd1p,fd10p,fd1p,fd10p,fd11p,fd12p,fd13p,fd14p,fd1p,fd10p,fd9p,fd11p,fd15p,rfl⟩,fun _ _=>⟨fd7p,fd1p,fd4p,fd5p,fd8p,fd5p,fd1p,fd9p,fd1p,fd10p,fd1p,fd10p,fd1p,fd10p,fd11p,fd12p,fd13p,fd14p,fd1p,fd10p,fd9p,fd11p,fd15p,rfl⟩⟩)
noncomputable abbrev fr0hv:=(([],0):List T×Int)
theorem fr0h:(tFr0).Holds (·=(([],0):List T×Int)):=Tr.hn_holds (by rw[show (tFr0).hn (([],0):List T×Int)=(fd0∧fd1∧fd1∧fd2∧fd3∧fd4∧fd5∧fd1∧fd6∧fd3∧(fd7∧fd16∧fd17∧fr0hv=fr0hv)∧∀ (_:Nat) (_:List Nat),fd7∧fd16∧fd17∧fr0hv=fr0hv) by kernel_rfl];exact ⟨fd0p,fd1p,fd1p,fd2p,fd3p,fd4p,fd5p,fd1p,fd6p,fd3p,⟨fd7p,fd16p,fd17p,rfl⟩,fun _ _=>⟨fd7p,fd16p,fd17p,rfl⟩⟩)
noncomputable abbrev dp_hv:=(((),([(p0,0,0)],1)):Unit×MPd0)
theorem dp_h:(tDp).Holds (·=(((),([(p0,0,0)],1)):Unit×MPd0)):=Tr.hn_holds (by rw[show (tDp).hn (((),([(p0,0,0)],1)):Unit×MPd0)=(fd0∧fd1∧(fd1∧fd18∧fd1∧fd10∧fd2∧fd3∧fd19∧fd5∧dp_hv=dp_hv)∧∀ (_:Nat) (_:List Nat),fd1∧fd18∧fd1∧fd10∧fd2∧fd3∧fd19∧fd5∧dp_hv=dp_hv) by kernel_rfl];exact ⟨fd0p,fd1p,⟨fd1p,fd18p,fd1p,fd10p,fd2p,fd3p,fd19p,fd5p,rfl⟩,fun _ _=>⟨fd1p,fd18p,fd1p,fd10p,fd2p,fd3p,fd19p,fd5p,rfl⟩⟩)
end Go.Proofs.YthnojkbkojpadaaGreat

namespace Go.Proofs.YthnojkbkojpadaaGreat
open Go.RowKit Go.Sx
set_option maxRecDepth 100000
set_option linter.unusedVariables false
noncomputable def cmp64_F (a:Int) (b:Int):Dv.T dI:=
 bif a != a then bif b != b then (0:Int) else (-1:Int)
 else bif b != b then (1:Int) else bif decide (a<b) then (-1:Int) else bif decide (a > b) then (1:Int) else (0:Int)
theorem cmp64_ok:FnPure Tryz.prog 139 aII dI (fun g=>cmp64_F g.1 g.2) (fun _=>[]):=pure_of_safe (Γ:=(PTab.gamz tab4 [] [])) (Λ:=noΛ) (PTab.okz tab4 [] []) noΛ_ok 100 default (fun g=>by kernel_rfl) (fun g=>by kernel_rfl)
noncomputable def cmpi_F (a:Int) (b:Int):Dv.T dI:=
 bif a != a then bif b != b then (0:Int) else (-1:Int)
 else bif b != b then (1:Int) else bif decide (a<b) then (-1:Int) else bif decide (a > b) then (1:Int) else (0:Int)
theorem cmpi_ok:FnPure Tryz.prog 140 aII dI (fun g=>cmpi_F g.1 g.2) (fun _=>[]):=pure_of_safe (Γ:=(PTab.gamz tab4 [] [])) (Λ:=noΛ) (PTab.okz tab4 [] []) noΛ_ok 100 default (fun g=>by kernel_rfl) (fun g=>by kernel_rfl)
noncomputable def tabK:PTab Tryz.prog:=((tab4).cons 139 (pconP aII dI (fun g=>cmp64_F g.1 g.2) (fun _=>[])) (conP_ok cmp64_ok puI)).cons 140 (pconP aII dI (fun g=>cmpi_F g.1 g.2) (fun _=>[])) (conP_ok cmpi_ok puI)
end Go.Proofs.YthnojkbkojpadaaGreat

namespace Go.Proofs.YthnojkbkojpadaaGreat
open Go.RowKit Go.Sx
set_option maxRecDepth 100000
set_option linter.unusedVariables false
noncomputable def tleq_F (a:T) (b:T):Dv.T dBool:=
 bif tcheck_F a != (0:Int)||(tcheck_F b != (0:Int)||(a.d != b.d||decide (a.e > b.e))) then false
 else bif decide (a.l0 > b.l0) then false else bif decide (a.l1 > b.l1) then false else bif decide (a.l2 > b.l2) then false else bif decide (a.l3 > b.l3) then false else true
theorem tleq_ok:FnPure Tryz.prog 66 aTT dBool (fun g=>tleq_F g.1 g.2) (fun _=>[]):=pure_of_safe (Γ:=(PTab.gamz tabK [] [(68,4,5)])) (Λ:=noΛ) (PTab.okz tabK [] [(68,4,5)]) noΛ_ok 100 default (fun g=>by kernel_rfl) (fun g=>by kernel_rfl)
noncomputable def rtleq_F (a:T) (b:T):Dv.T dBool:=
 bif rtcheck_F a != (0:Int)||(rtcheck_F b != (0:Int)||(a.d != b.d||decide (a.e > b.e))) then false
 else bif decide (a.l0 > b.l0) then false else bif decide (a.l1 > b.l1) then false else bif decide (a.l2 > b.l2) then false else bif decide (a.l3 > b.l3) then false else true
theorem rtleq_ok:FnPure Tryz.prog 68 aTT dBool (fun g=>rtleq_F g.1 g.2) (fun _=>[]):=pure_of_safe (Γ:=(PTab.gamz tabK [] [(68,4,5)])) (Λ:=noΛ) (PTab.okz tabK [] [(68,4,5)]) noΛ_ok 100 default (fun g=>by kernel_rfl) (fun g=>by kernel_rfl)
noncomputable def tcmp_F (a:T) (b:T):Dv.T dI:=
 bif conj ([a.l0==b.l0]++([a.l1==b.l1]++([a.l2==b.l2]++([a.l3==b.l3]++[])))) then bif cmp64_F a.e b.e != (0:Int) then cmp64_F a.e b.e else bif cmpi_F a.d b.d != (0:Int) then cmpi_F a.d b.d else (0:Int)
 else bif (bif (bif (bif (bif cmp64_F a.e b.e != (0:Int) then cmp64_F a.e b.e else bif cmpi_F a.d b.d != (0:Int) then cmpi_F a.d b.d else (0:Int)) != (0:Int) then bif cmp64_F a.e b.e != (0:Int) then cmp64_F a.e b.e else bif cmpi_F a.d b.d != (0:Int) then cmpi_F a.d b.d else (0:Int) else bif cmp64_F a.l0 b.l0 != (0:Int) then cmp64_F a.l0 b.l0 else (0:Int)) != (0:Int) then bif (bif cmp64_F a.e b.e != (0:Int) then cmp64_F a.e b.e else bif cmpi_F a.d b.d != (0:Int) then cmpi_F a.d b.d else (0:Int)) != (0:Int) then bif cmp64_F a.e b.e != (0:Int) then cmp64_F a.e b.e else bif cmpi_F a.d b.d != (0:Int) then cmpi_F a.d b.d else (0:Int) else bif cmp64_F a.l0 b.l0 != (0:Int) then cmp64_F a.l0 b.l0 else (0:Int) else bif cmp64_F a.l1 b.l1 != (0:Int) then cmp64_F a.l1 b.l1 else (0:Int)) != (0:Int) then bif (bif (bif cmp64_F a.e b.e != (0:Int) then cmp64_F a.e b.e else bif cmpi_F a.d b.d != (0:Int) then cmpi_F a.d b.d else (0:Int)) != (0:Int) then bif cmp64_F a.e b.e != (0:Int) then cmp64_F a.e b.e else bif cmpi_F a.d b.d != (0:Int) then cmpi_F a.d b.d else (0:Int) else bif cmp64_F a.l0 b.l0 != (0:Int) then cmp64_F a.l0 b.l0 else (0:Int)) != (0:Int) then bif (bif cmp64_F a.e b.e != (0:Int) then cmp64_F a.e b.e else bif cmpi_F a.d b.d != (0:Int) then cmpi_F a.d b.d else (0:Int)) != (0:Int) then bif cmp64_F a.e b.e != (0:Int) then cmp64_F a.e b.e else bif cmpi_F a.d b.d != (0:Int) then cmpi_F a.d b.d else (0:Int) else bif cmp64_F a.l0 b.l0 != (0:Int) then cmp64_F a.l0 b.l0 else (0:Int) else bif cmp64_F a.l1 b.l1 != (0:Int) then cmp64_F a.l1 b.l1 else (0:Int) else bif cmp64_F a.l2 b.l2 != (0:Int) then cmp64_F a.l2 b.l2 else (0:Int)) != (0:Int) then bif (bif (bif (bif cmp64_F a.e b.e != (0:Int) then cmp64_F a.e b.e else bif cmpi_F a.d b.d != (0:Int) then cmpi_F a.d b.d else (0:Int)) != (0:Int) then bif cmp64_F a.e b.e != (0:Int) then cmp64_F a.e b.e else bif cmpi_F a.d b.d != (0:Int) then cmpi_F a.d b.d else (0:Int) else bif cmp64_F a.l0 b.l0 != (0:Int) then cmp64_F a.l0 b.l0 else (0:Int)) != (0:Int) then bif (bif cmp64_F a.e b.e != (0:Int) then cmp64_F a.e b.e else bif cmpi_F a.d b.d != (0:Int) then cmpi_F a.d b.d else (0:Int)) != (0:Int) then bif cmp64_F a.e b.e != (0:Int) then cmp64_F a.e b.e else bif cmpi_F a.d b.d != (0:Int) then cmpi_F a.d b.d else (0:Int) else bif cmp64_F a.l0 b.l0 != (0:Int) then cmp64_F a.l0 b.l0 else (0:Int) else bif cmp64_F a.l1 b.l1 != (0:Int) then cmp64_F a.l1 b.l1 else (0:Int)) != (0:Int) then bif (bif (bif cmp64_F a.e b.e != (0:Int) then cmp64_F a.e b.e else bif cmpi_F a.d b.d != (0:Int) then cmpi_F a.d b.d else (0:Int)) != (0:Int) then bif cmp64_F a.e b.e != (0:Int) then cmp64_F a.e b.e else bif cmpi_F a.d b.d != (0:Int) then cmpi_F a.d b.d else (0:Int) else bif cmp64_F a.l0 b.l0 != (0:Int) then cmp64_F a.l0 b.l0 else (0:Int)) != (0:Int) then bif (bif cmp64_F a.e b.e != (0:Int) then cmp64_F a.e b.e else bif cmpi_F a.d b.d != (0:Int) then cmpi_F a.d b.d else (0:Int)) != (0:Int) then bif cmp64_F a.e b.e != (0:Int) then cmp64_F a.e b.e else bif cmpi_F a.d b.d != (0:Int) then cmpi_F a.d b.d else (0:Int) else bif cmp64_F a.l0 b.l0 != (0:Int) then cmp64_F a.l0 b.l0 else (0:Int) else bif cmp64_F a.l1 b.l1 != (0:Int) then cmp64_F a.l1 b.l1 else (0:Int) else bif cmp64_F a.l2 b.l2 != (0:Int) then cmp64_F a.l2 b.l2 else (0:Int) else bif cmp64_F a.l3 b.l3 != (0:Int) then cmp64_F a.l3 b.l3 else (0:Int)
theorem tcmp_ok:FnPure Tryz.prog 105 aTT dI (fun g=>tcmp_F g.1 g.2) (fun _=>[]):=pure_of_safe (Γ:=(PTab.gamz tabK [] [(68,4,5)])) (Λ:=noΛ) (PTab.okz tabK [] [(68,4,5)]) noΛ_ok 100 default (fun g=>by kernel_rfl) (fun g=>by kernel_rfl)
noncomputable def rtcmp_F (a:T) (b:T):Dv.T dI:=
 bif decide (a.e<b.e) then (-1:Int)
 else bif decide (a.e > b.e) then (1:Int) else bif decide (a.d<b.d) then (-1:Int) else bif decide (a.d > b.d) then (1:Int) else bif (bif decide (a.l0<b.l0) then (-1:Int) else bif decide (a.l0 > b.l0) then (1:Int) else (0:Int)) != (0:Int) then bif decide (a.l0<b.l0) then (-1:Int) else bif decide (a.l0 > b.l0) then (1:Int) else (0:Int) else bif (bif decide (a.l1<b.l1) then (-1:Int) else bif decide (a.l1 > b.l1) then (1:Int) else (0:Int)) != (0:Int) then bif decide (a.l1<b.l1) then (-1:Int) else bif decide (a.l1 > b.l1) then (1:Int) else (0:Int) else bif (bif decide (a.l2<b.l2) then (-1:Int) else bif decide (a.l2 > b.l2) then (1:Int) else (0:Int)) != (0:Int) then bif decide (a.l2<b.l2) then (-1:Int) else bif decide (a.l2 > b.l2) then (1:Int) else (0:Int) else bif (bif decide (a.l3<b.l3) then (-1:Int) else bif decide (a.l3 > b.l3) then (1:Int) else (0:Int)) != (0:Int) then bif decide (a.l3<b.l3) then (-1:Int) else bif decide (a.l3 > b.l3) then (1:Int) else (0:Int) else (0:Int)
theorem rtcmp_ok:FnPure Tryz.prog 149 aTT dI (fun g=>rtcmp_F g.1 g.2) (fun _=>[]):=pure_of_safe (Γ:=(PTab.gamz tabK [] [(68,4,5)])) (Λ:=noΛ) (PTab.okz tabK [] [(68,4,5)]) noΛ_ok 100 default (fun g=>by kernel_rfl) (fun g=>by kernel_rfl)
noncomputable def tabL:PTab Tryz.prog:=((((tabK).cons 66 (pconP aTT dBool (fun g=>tleq_F g.1 g.2) (fun _=>[])) (conP_ok tleq_ok puB)).cons 68 (pconP aTT dBool (fun g=>rtleq_F g.1 g.2) (fun _=>[])) (conP_ok rtleq_ok puB)).cons 105 (pconP aTT dI (fun g=>tcmp_F g.1 g.2) (fun _=>[])) (conP_ok tcmp_ok puI)).cons 149 (pconP aTT dI (fun g=>rtcmp_F g.1 g.2) (fun _=>[])) (conP_ok rtcmp_ok puI)
end Go.Proofs.YthnojkbkojpadaaGreat

namespace Go.Proofs.YthnojkbkojpadaaGreat
open Go.RowKit Go.Sx Go.Lp
def keyT (a:T):List Int:=[a.e,a.d,a.l0,a.l1,a.l2,a.l3]
theorem keyT_inj (a b:T) (h:keyT a=keyT b):a=b:=by
 obtain ⟨f,k,p0,p1,p2,p3⟩:=a
 obtain ⟨f',k',p0',p1',p2',p3'⟩:=b
 simp only[keyT,List.cons.injEq,and_true] at h
 obtain ⟨rfl,rfl,rfl,rfl,rfl,rfl⟩:=h
 rfl
theorem cmp3 (x y:Int):(x<y∧cmp64_F x y=-1)∨(y<x∧cmp64_F x y=1)∨(x=y∧cmp64_F x y=0):=by
 unfold cmp64_F
 by_cases h:x<y
 ·left;simp[h]
 ·by_cases h2:y<x
  ·right;left;simp[h,h2]
  ·right;right
   refine ⟨by omega,?_⟩
   simp[h,h2]
theorem cmpi_same (x y:Int):cmpi_F x y=cmp64_F x y:=rfl
theorem or_self {x:Int}:(bif x != 0 then x else 0)=x:=by
 by_cases h:x=0
 ·subst h;rfl
 ·have:(x != 0)=true:=by simpa using h
  rw[this];rfl
theorem tcmp_lex (a b:T):tcmp_F a b=lexC (keyT a) (keyT b):=by
 unfold tcmp_F keyT
 simp only[cmpi_same,lexC,or_self,conj,List.append_nil,List.cons_append,List.nil_append]
 rcases cmp3 a.e b.e with ⟨h,e⟩ | ⟨h,e⟩ | ⟨h,e⟩ <;> simp only[e]
 ·simp[h]
 ·have:¬ a.e<b.e:=by omega
  simp[h,this]
 rw[if_neg (by omega),if_neg (by omega)]
 rcases cmp3 a.d b.d with ⟨h,e⟩ | ⟨h,e⟩ | ⟨h,e⟩ <;> simp only[e]
 ·simp[h]
 ·have:¬ a.d<b.d:=by omega
  simp[h,this]
 rw[if_neg (by omega),if_neg (by omega)]
 rcases cmp3 a.l0 b.l0 with ⟨h,e⟩ | ⟨h,e⟩ | ⟨h,e⟩ <;> simp only[e]
 ·have h2:(a.l0==b.l0)=false:=beq_eq_false_iff_ne.2 (by omega)
  simp[h,h2]
 ·have h2:¬ a.l0<b.l0:=by omega
  have h3:(a.l0==b.l0)=false:=beq_eq_false_iff_ne.2 (by omega)
  simp[h,h2,h3]
 rw[if_neg (by omega),if_neg (by omega)]
 rcases cmp3 a.l1 b.l1 with ⟨h1,e⟩ | ⟨h1,e⟩ | ⟨h1,e⟩ <;> simp only[e]
 ·have h2:(a.l1==b.l1)=false:=beq_eq_false_iff_ne.2 (by omega)
  simp[h,h1,h2]
 ·have h2:¬ a.l1<b.l1:=by omega
  have h3:(a.l1==b.l1)=false:=beq_eq_false_iff_ne.2 (by omega)
  simp[h,h1,h2,h3]
 rw[if_neg (by omega),if_neg (by omega)]
 rcases cmp3 a.l2 b.l2 with ⟨h1,e⟩ | ⟨h1,e⟩ | ⟨h1,e⟩ <;> simp only[e]
 ·have h2:(a.l2==b.l2)=false:=beq_eq_false_iff_ne.2 (by omega)
  simp[h,h1,h2]
 ·have h2:¬ a.l2<b.l2:=by omega
  have h3:(a.l2==b.l2)=false:=beq_eq_false_iff_ne.2 (by omega)
  simp[h,h1,h2,h3]
 rw[if_neg (by omega),if_neg (by omega)]
 rcases cmp3 a.l3 b.l3 with ⟨h1,e⟩ | ⟨h1,e⟩ | ⟨h1,e⟩ <;> simp only[e]
 ·have h2:(a.l3==b.l3)=false:=beq_eq_false_iff_ne.2 (by omega)
  simp[h,h1,h2]
 ·have h2:¬ a.l3<b.l3:=by omega
  have h3:(a.l3==b.l3)=false:=beq_eq_false_iff_ne.2 (by omega)
  simp[h,h1,h2,h3]
 rw[if_neg (by omega),if_neg (by omega)]
 simp
theorem toT:TO fun a b=>tcmp_F a b:=to_lex keyT keyT_inj fun a b=>by rw[tcmp_lex]
end Go.Proofs.YthnojkbkojpadaaGreat

namespace Go.Proofs.YthnojkbkojpadaaGreat
open Go.RowKit Go.Sx
set_option maxRecDepth 100000
set_option linter.unusedVariables false
end Go.Proofs.YthnojkbkojpadaaGreat

namespace Go.Proofs.YthnojkbkojpadaaGreat
open Go.RowKit Go.Sx Go.Lp
def KS:Nat:=1000000
def eqT (a b:T):Bool:=decide (a=b)
theorem conj_T (a b:T):conj ([a.e==b.e]++([a.d==b.d]++([a.l0==b.l0]++([a.l1==b.l1]++([a.l2==b.l2]++([a.l3==b.l3]++[])))++[])))=eqT a b:=by
 obtain ⟨e,d,p0,p1,p2,p3⟩:=a
 obtain ⟨e',d',p0',p1',p2',p3'⟩:=b
 unfold eqT
 simp[conj]
 rw[Bool.eq_iff_iff]
 simp
theorem conjP (a b:Place):conj ([a.node==b.node]++([a.port==b.port]++[]))=decide (a=b):=by
 obtain ⟨f,k⟩:=a
 obtain ⟨f',k'⟩:=b
 simp[conj]
 rw[Bool.eq_iff_iff]
 simp
theorem rngP (i n:Int) (l:Nat) (h1:n=(l:Int)) (h3:0≤i) (h:decide (i<n)=true):0≤i∧i<(l:Int):=by
 have:=of_decide_eq_true h
 omega
end Go.Proofs.YthnojkbkojpadaaGreat

namespace Go.Proofs.YthnojkbkojpadaaGreat
open Go.RowKit Go.Sx Go.Lp
noncomputable def tabN0:MTab Tryz.prog:=MTab.of tabL
end Go.Proofs.YthnojkbkojpadaaGreat

namespace Go.Proofs.YthnojkbkojpadaaGreat
open Go.RowKit Go.Sx
set_option maxRecDepth 100000
set_option linter.unusedVariables false
abbrev aCC:DA (Change×Change):=.cons dC (.one dC)
abbrev aLCC:DA (List Change×Change):=.cons dLC (.one dC)
abbrev aLLC:DA (List Change×List Change):=.cons dLC (.one dLC)
abbrev aLC:DA (List Change):=.one dLC
noncomputable def lwi_F (n:Int):Dv.T dBool:=
 decide (n≥(-1099511627776:Int))&&decide (n≤(1099511627776:Int))
noncomputable def lcm_F (a:Change) (b:Change):Dv.T dI:=
 bif cmpi_F a.p.node b.p.node != (0:Int) then cmpi_F a.p.node b.p.node
 else bif cmpi_F a.p.port b.p.port != (0:Int) then cmpi_F a.p.port b.p.port else bif tcmp_F a.t b.t != (0:Int) then tcmp_F a.t b.t else (0:Int)
theorem lcm_ok:FnPure Tryz.prog 117 aCC dI (fun g=>lcm_F g.1 g.2) (fun _=>[]):=pure_of_safe (Γ:=(MTab.gamz tabN0 [] [])) (Λ:=noΛ) (MTab.okz tabN0 [] []) noΛ_ok 100 default (fun g=>by kernel_rfl) (fun g=>by kernel_rfl)
noncomputable def rby_F (n:Int):Dv.T dBool:=
 decide (n > (1099511627776:Int))||decide (n<(-1099511627776:Int))
noncomputable def ror_F (a:Change) (b:Change):Dv.T dI:=
 bif decide (a.p.node<b.p.node) then (-1:Int)
 else bif decide (a.p.node > b.p.node) then (1:Int) else bif decide (a.p.port<b.p.port) then (-1:Int) else bif decide (a.p.port > b.p.port) then (1:Int) else rtcmp_F a.t b.t
abbrev ix1_G:Type:=List Change×Unit×Int×Int×Int
noncomputable def ix1_LP:LP 0 ix1_G:=.pair (.slot 0 0 dLC) (.pair (.fix 0 1 (.fn 71 [])) (.pair (.slot 0 7 dI) (.pair (.slot 0 8 dI) (.slot 0 4 dI))))
noncomputable def ix1_R (xs:List Change) (_u:Unit) (n:Int) (i:Int) (r:Int):Ex×ix1_G:=
 bif decide (i<n) then bif tcheck_F (xs.getD i.toNat eC.dflt).t != (0:Int) then (Ex.ret,eC.ag xs,(),n,i,i) else (Ex.normal,eC.ag xs,(),n,IntKind.i64.wrap (i+(1:Int)),r)
 else (Ex.exit (0:Nat),eC.ag xs,(),n,i,r)
def ix1_side (xs:List Change) (_u:Unit) (n:Int) (i:Int) (r:Int):Prop:=
 (decide (i<n)=true→((0:Int)≤i∧i<(↑xs.length:Int))∧((tcheck_F (xs.getD i.toNat eC.dflt).t != (0:Int))=true→eC.okL xs)∧((tcheck_F (xs.getD i.toNat eC.dflt).t != (0:Int))=false→eC.okL xs))∧(decide (i<n)=false→eC.okL xs)
theorem ix1_one:((loopsOf Tryz.prog 115).filter fun c=>Nat.beq (lkey c) 2).length=1:=by kernel_rfl
abbrev ix1_GC:Type:=List Change×Int
abbrev ix1_GB:Type:=Unit×Int
def ix1_f (g:ix1_G):Int×ix1_GC×ix1_GB:=(g.2.2.2.1,(g.1,g.2.2.1),(g.2.1,g.2.2.2.2))
def ix1_g (d:Int×ix1_GC×ix1_GB):ix1_G:=(d.2.1.1,d.2.2.1,d.2.1.2,d.1,d.2.2.2)
theorem ix1_es (g:ix1_G):(ix1_R g.1 g.2.1 g.2.2.1 g.2.2.2.1 g.2.2.2.2).1=.normal∨(ix1_R g.1 g.2.1 g.2.2.1 g.2.2.2.1 g.2.2.2.2).1∈([.ret,.exit 0]:List Ex):=by
 unfold ix1_R
 repeat' (first | (left;rfl) | (right;simp only[cond_true,cond_false];simp;done) | (rw[Bool.cond_eq_ite];split))
noncomputable abbrev ix1_C (Inv:ix1_G→List Prop) (m:ix1_G→Nat):LCon:=loopR [.ret,.exit 0] (loopBody Tryz.prog 115 2) ix1_LP [] 19 Inv (fun g=>ix1_R g.1 g.2.1 g.2.2.1 g.2.2.2.1 g.2.2.2.2) m
theorem ix1_loop (Inv:ix1_G→List Prop) (m:ix1_G→Nat) (hs:∀ g,allP (Inv g)→ix1_side g.1 g.2.1 g.2.2.1 g.2.2.2.1 g.2.2.2.2) (hg:Goes (fun g:ix1_G=>ix1_R g.1 g.2.1 g.2.2.1 g.2.2.2.1 g.2.2.2.2) m fun g=>allP (Inv g)):∀ b∈loopsOf Tryz.prog 115,lkey b=2→LoopOk Tryz.prog b (ix1_C Inv m).g:=loop_run (Γ:=(MTab.gamz tabN0 [] [])) (Λ:=noΛ) (MTab.okz tabN0 [] []) noΛ_ok 100 115 2 19 ix1_LP [] Inv (fun g=>ix1_R g.1 g.2.1 g.2.2.1 g.2.2.2.1 g.2.2.2.2) (fun g=>ix1_side g.1 g.2.1 g.2.2.1 g.2.2.2.1 g.2.2.2.2) m default [.ret,.exit 0] ix1_one (fun rd T B HL HB ds g=>by kernel_rfl) (fun rd T B HL HB ds g=>by kernel_rfl) hs hg ix1_es
abbrev ix2_G:Type:=List Change×Unit×Int×Int×Int
noncomputable def ix2_LP:LP 0 ix2_G:=.pair (.slot 0 0 dLC) (.pair (.fix 0 1 (.fn 74 [])) (.pair (.slot 0 7 dI) (.pair (.slot 0 8 dI) (.slot 0 4 dI))))
noncomputable def ix2_R (xs:List Change) (_u:Unit) (n:Int) (i:Int) (r:Int):Ex×ix2_G:=
 bif decide (i<n) then bif !(decide ((xs.getD i.toNat eC.dflt).n≥(-1099511627776:Int))&&decide ((xs.getD i.toNat eC.dflt).n≤(1099511627776:Int))) then (Ex.ret,eC.ag xs,(),n,i,i) else (Ex.normal,eC.ag xs,(),n,IntKind.i64.wrap (i+(1:Int)),r)
 else (Ex.exit (0:Nat),eC.ag xs,(),n,i,r)
def ix2_side (xs:List Change) (_u:Unit) (n:Int) (i:Int) (r:Int):Prop:=
 (decide (i<n)=true→((0:Int)≤i∧i<(↑xs.length:Int))∧((!(decide ((xs.getD i.toNat eC.dflt).n≥(-1099511627776:Int))&&decide ((xs.getD i.toNat eC.dflt).n≤(1099511627776:Int))))=true→eC.okL xs)∧((!(decide ((xs.getD i.toNat eC.dflt).n≥(-1099511627776:Int))&&decide ((xs.getD i.toNat eC.dflt).n≤(1099511627776:Int))))=false→eC.okL xs))∧(decide (i<n)=false→eC.okL xs)
theorem ix2_one:((loopsOf Tryz.prog 115).filter fun c=>Nat.beq (lkey c) 2).length=1:=by kernel_rfl
abbrev ix2_GC:Type:=List Change×Int
abbrev ix2_GB:Type:=Unit×Int
def ix2_f (g:ix2_G):Int×ix2_GC×ix2_GB:=(g.2.2.2.1,(g.1,g.2.2.1),(g.2.1,g.2.2.2.2))
def ix2_g (d:Int×ix2_GC×ix2_GB):ix2_G:=(d.2.1.1,d.2.2.1,d.2.1.2,d.1,d.2.2.2)
theorem ix2_es (g:ix2_G):(ix2_R g.1 g.2.1 g.2.2.1 g.2.2.2.1 g.2.2.2.2).1=.normal∨(ix2_R g.1 g.2.1 g.2.2.1 g.2.2.2.1 g.2.2.2.2).1∈([.ret,.exit 0]:List Ex):=by
 unfold ix2_R
 repeat' (first | (left;rfl) | (right;simp only[cond_true,cond_false];simp;done) | (rw[Bool.cond_eq_ite];split))
noncomputable abbrev ix2_C (Inv:ix2_G→List Prop) (m:ix2_G→Nat):LCon:=loopR [.ret,.exit 0] (loopBody Tryz.prog 115 2) ix2_LP [] 19 Inv (fun g=>ix2_R g.1 g.2.1 g.2.2.1 g.2.2.2.1 g.2.2.2.2) m
theorem ix2_loop (Inv:ix2_G→List Prop) (m:ix2_G→Nat) (hs:∀ g,allP (Inv g)→ix2_side g.1 g.2.1 g.2.2.1 g.2.2.2.1 g.2.2.2.2) (hg:Goes (fun g:ix2_G=>ix2_R g.1 g.2.1 g.2.2.1 g.2.2.2.1 g.2.2.2.2) m fun g=>allP (Inv g)):∀ b∈loopsOf Tryz.prog 115,lkey b=2→LoopOk Tryz.prog b (ix2_C Inv m).g:=loop_run (Γ:=(MTab.gamz tabN0 [] [])) (Λ:=noΛ) (MTab.okz tabN0 [] []) noΛ_ok 100 115 2 19 ix2_LP [] Inv (fun g=>ix2_R g.1 g.2.1 g.2.2.1 g.2.2.2.1 g.2.2.2.2) (fun g=>ix2_side g.1 g.2.1 g.2.2.1 g.2.2.2.1 g.2.2.2.2) m default [.ret,.exit 0] ix2_one (fun rd T B HL HB ds g=>by kernel_rfl) (fun rd T B HL HB ds g=>by kernel_rfl) hs hg ix2_es
abbrev eqc_G:Type:=List Change×List Change×Int×Int×Bool
noncomputable def eqc_LP:LP 0 eqc_G:=.pair (.slot 0 0 dLC) (.pair (.slot 0 1 dLC) (.pair (.slot 0 12 dI) (.pair (.slot 0 13 dI) (.slot 0 4 dBool))))
noncomputable def eqc_R (xs:List Change) (ys:List Change) (n:Int) (i:Int) (r:Bool):Ex×eqc_G:=
 bif decide (i<n) then bif !conj ([(xs.getD i.toNat eC.dflt).p.node==(ys.getD i.toNat eC.dflt).p.node]++([(xs.getD i.toNat eC.dflt).p.port==(ys.getD i.toNat eC.dflt).p.port]++[])++([(xs.getD i.toNat eC.dflt).t.e==(ys.getD i.toNat eC.dflt).t.e]++([(xs.getD i.toNat eC.dflt).t.d==(ys.getD i.toNat eC.dflt).t.d]++([(xs.getD i.toNat eC.dflt).t.l0==(ys.getD i.toNat eC.dflt).t.l0]++([(xs.getD i.toNat eC.dflt).t.l1==(ys.getD i.toNat eC.dflt).t.l1]++([(xs.getD i.toNat eC.dflt).t.l2==(ys.getD i.toNat eC.dflt).t.l2]++([(xs.getD i.toNat eC.dflt).t.l3==(ys.getD i.toNat eC.dflt).t.l3]++[])))++[]))++([(xs.getD i.toNat eC.dflt).n==(ys.getD i.toNat eC.dflt).n]++[]))) then (Ex.ret,eC.ag xs,eC.ag ys,n,i,false) else (Ex.normal,eC.ag xs,eC.ag ys,n,IntKind.i64.wrap (i+(1:Int)),r)
 else (Ex.exit (0:Nat),eC.ag xs,eC.ag ys,n,i,r)
def eqc_side (xs:List Change) (ys:List Change) (n:Int) (i:Int) (r:Bool):Prop:=
 (decide (i<n)=true→((0:Int)≤i∧i<(↑xs.length:Int))∧((0:Int)≤i∧i<(↑ys.length:Int))∧((!conj ([(xs.getD i.toNat eC.dflt).p.node==(ys.getD i.toNat eC.dflt).p.node]++([(xs.getD i.toNat eC.dflt).p.port==(ys.getD i.toNat eC.dflt).p.port]++[])++([(xs.getD i.toNat eC.dflt).t.e==(ys.getD i.toNat eC.dflt).t.e]++([(xs.getD i.toNat eC.dflt).t.d==(ys.getD i.toNat eC.dflt).t.d]++([(xs.getD i.toNat eC.dflt).t.l0==(ys.getD i.toNat eC.dflt).t.l0]++([(xs.getD i.toNat eC.dflt).t.l1==(ys.getD i.toNat eC.dflt).t.l1]++([(xs.getD i.toNat eC.dflt).t.l2==(ys.getD i.toNat eC.dflt).t.l2]++([(xs.getD i.toNat eC.dflt).t.l3==(ys.getD i.toNat eC.dflt).t.l3]++[])))++[]))++([(xs.getD i.toNat eC.dflt).n==(ys.getD i.toNat eC.dflt).n]++[]))))=true→eC.okL xs∧eC.okL ys)∧((!conj ([(xs.getD i.toNat eC.dflt).p.node==(ys.getD i.toNat eC.dflt).p.node]++([(xs.getD i.toNat eC.dflt).p.port==(ys.getD i.toNat eC.dflt).p.port]++[])++([(xs.getD i.toNat eC.dflt).t.e==(ys.getD i.toNat eC.dflt).t.e]++([(xs.getD i.toNat eC.dflt).t.d==(ys.getD i.toNat eC.dflt).t.d]++([(xs.getD i.toNat eC.dflt).t.l0==(ys.getD i.toNat eC.dflt).t.l0]++([(xs.getD i.toNat eC.dflt).t.l1==(ys.getD i.toNat eC.dflt).t.l1]++([(xs.getD i.toNat eC.dflt).t.l2==(ys.getD i.toNat eC.dflt).t.l2]++([(xs.getD i.toNat eC.dflt).t.l3==(ys.getD i.toNat eC.dflt).t.l3]++[])))++[]))++([(xs.getD i.toNat eC.dflt).n==(ys.getD i.toNat eC.dflt).n]++[]))))=false→eC.okL xs∧eC.okL ys))∧(decide (i<n)=false→eC.okL xs∧eC.okL ys)
theorem eqc_one:((loopsOf Tryz.prog 31).filter fun c=>Nat.beq (lkey c) 4).length=1:=by kernel_rfl
abbrev eqc_GC:Type:=List Change×List Change×Int
abbrev eqc_GB:Type:=Bool
def eqc_f (g:eqc_G):Int×eqc_GC×eqc_GB:=(g.2.2.2.1,(g.1,g.2.1,g.2.2.1),g.2.2.2.2)
def eqc_g (d:Int×eqc_GC×eqc_GB):eqc_G:=(d.2.1.1,d.2.1.2.1,d.2.1.2.2,d.1,d.2.2)
theorem eqc_es (g:eqc_G):(eqc_R g.1 g.2.1 g.2.2.1 g.2.2.2.1 g.2.2.2.2).1=.normal∨(eqc_R g.1 g.2.1 g.2.2.1 g.2.2.2.1 g.2.2.2.2).1∈([.ret,.exit 0]:List Ex):=by
 unfold eqc_R
 repeat' (first | (left;rfl) | (right;simp only[cond_true,cond_false];simp;done) | (rw[Bool.cond_eq_ite];split))
noncomputable abbrev eqc_C (Inv:eqc_G→List Prop) (m:eqc_G→Nat):LCon:=loopR [.ret,.exit 0] (loopBody Tryz.prog 31 4) eqc_LP [] 26 Inv (fun g=>eqc_R g.1 g.2.1 g.2.2.1 g.2.2.2.1 g.2.2.2.2) m
theorem eqc_loop (Inv:eqc_G→List Prop) (m:eqc_G→Nat) (hs:∀ g,allP (Inv g)→eqc_side g.1 g.2.1 g.2.2.1 g.2.2.2.1 g.2.2.2.2) (hg:Goes (fun g:eqc_G=>eqc_R g.1 g.2.1 g.2.2.1 g.2.2.2.1 g.2.2.2.2) m fun g=>allP (Inv g)):∀ b∈loopsOf Tryz.prog 31,lkey b=4→LoopOk Tryz.prog b (eqc_C Inv m).g:=loop_run (Γ:=(MTab.gamz tabN0 [] [])) (Λ:=noΛ) (MTab.okz tabN0 [] []) noΛ_ok 100 31 4 26 eqc_LP [] Inv (fun g=>eqc_R g.1 g.2.1 g.2.2.1 g.2.2.2.1 g.2.2.2.2) (fun g=>eqc_side g.1 g.2.1 g.2.2.1 g.2.2.2.1 g.2.2.2.2) m default [.ret,.exit 0] eqc_one (fun rd T B HL HB ds g=>by kernel_rfl) (fun rd T B HL HB ds g=>by kernel_rfl) hs hg eqc_es
abbrev rn1_G:Type:=List Change×Int×Unit×Int
noncomputable def rn1_LP:LP 0 rn1_G:=.pair (.slot 0 0 dLC) (.pair (.slot 0 4 dI) (.pair (.fix 0 2 (.k (.slice none 0 0))) (.slot 0 3 dI)))
noncomputable def rn1_R (xs:List Change) (i:Int) (_u:Unit) (r:Int):Ex×rn1_G:=
 bif decide (i<(↑xs.length:Int)) then bif rtcheck_F (xs.getD i.toNat eC.dflt).t != (0:Int) then (Ex.ret,eC.ag xs,i,(),(10:Int)) else (Ex.normal,eC.ag xs,IntKind.i64.wrap (i+(1:Int)),(),r)
 else (Ex.exit (0:Nat),eC.ag xs,i,(),r)
def rn1_side (xs:List Change) (i:Int) (_u:Unit) (r:Int):Prop:=
 (decide (i<(↑xs.length:Int))=true→((0:Int)≤i∧i<(↑xs.length:Int))∧((rtcheck_F (xs.getD i.toNat eC.dflt).t != (0:Int))=true→eC.okL xs)∧((rtcheck_F (xs.getD i.toNat eC.dflt).t != (0:Int))=false→eC.okL xs))∧(decide (i<(↑xs.length:Int))=false→eC.okL xs)
theorem rn1_one:((loopsOf Tryz.prog 30).filter fun c=>Nat.beq (lkey c) 2).length=1:=by kernel_rfl
abbrev rn1_GC:Type:=List Change
abbrev rn1_GB:Type:=Unit×Int
def rn1_f (g:rn1_G):Int×rn1_GC×rn1_GB:=(g.2.1,g.1,(g.2.2.1,g.2.2.2))
def rn1_g (d:Int×rn1_GC×rn1_GB):rn1_G:=(d.2.1,d.1,d.2.2.1,d.2.2.2)
theorem rn1_es (g:rn1_G):(rn1_R g.1 g.2.1 g.2.2.1 g.2.2.2).1=.normal∨(rn1_R g.1 g.2.1 g.2.2.1 g.2.2.2).1∈([.ret,.exit 0]:List Ex):=by
 unfold rn1_R
 repeat' (first | (left;rfl) | (right;simp only[cond_true,cond_false];simp;done) | (rw[Bool.cond_eq_ite];split))
noncomputable abbrev rn1_C (Inv:rn1_G→List Prop) (m:rn1_G→Nat):LCon:=loopR [.ret,.exit 0] (loopBody Tryz.prog 30 2) rn1_LP [] 94 Inv (fun g=>rn1_R g.1 g.2.1 g.2.2.1 g.2.2.2) m
theorem rn1_loop (Inv:rn1_G→List Prop) (m:rn1_G→Nat) (hs:∀ g,allP (Inv g)→rn1_side g.1 g.2.1 g.2.2.1 g.2.2.2) (hg:Goes (fun g:rn1_G=>rn1_R g.1 g.2.1 g.2.2.1 g.2.2.2) m fun g=>allP (Inv g)):∀ b∈loopsOf Tryz.prog 30,lkey b=2→LoopOk Tryz.prog b (rn1_C Inv m).g:=loop_run (Γ:=(MTab.gamz tabN0 [] [])) (Λ:=noΛ) (MTab.okz tabN0 [] []) noΛ_ok 100 30 2 94 rn1_LP [] Inv (fun g=>rn1_R g.1 g.2.1 g.2.2.1 g.2.2.2) (fun g=>rn1_side g.1 g.2.1 g.2.2.1 g.2.2.2) m default [.ret,.exit 0] rn1_one (fun rd T B HL HB ds g=>by kernel_rfl) (fun rd T B HL HB ds g=>by kernel_rfl) hs hg rn1_es
abbrev rsu_G:Type:=List Change×Unit×Change×Int×Int×Int×Int×Bool
noncomputable def rsu_LP:LP 1 rsu_G:=.pair (.slot 1 0 dLC) (.pair (.fix 1 3 (.p 0 0)) (.pair (.obj 1 0 59 eC) (.pair (.slot 1 8 dI) (.pair (.slot 1 6 dI) (.pair (.slot 1 7 dI) (.pair (.slot 1 4 dI) (.slot 1 5 dBool)))))))
noncomputable def rsu_R (xs:List Change) (_u:Unit) (c:Change) (i:Int) (n:Int) (m:Int) (r:Int) (o:Bool):Ex×rsu_G:=
 bif decide (i<(↑xs.length:Int)) then bif conj ([(xs.getD i.toNat eC.dflt).p.node==c.p.node]++([(xs.getD i.toNat eC.dflt).p.port==c.p.port]++[]))&&conj ([(xs.getD i.toNat eC.dflt).t.e==c.t.e]++([(xs.getD i.toNat eC.dflt).t.d==c.t.d]++([(xs.getD i.toNat eC.dflt).t.l0==c.t.l0]++([(xs.getD i.toNat eC.dflt).t.l1==c.t.l1]++([(xs.getD i.toNat eC.dflt).t.l2==c.t.l2]++([(xs.getD i.toNat eC.dflt).t.l3==c.t.l3]++[])))++[])))&&(decide ((xs.getD i.toNat eC.dflt).n > (1099511627776:Int))||decide ((xs.getD i.toNat eC.dflt).n<(-1099511627776:Int))) then (Ex.ret,eC.ag xs,(),c,i,n,m,(0:Int),false) else (Ex.normal,eC.ag xs,(),c,IntKind.i64.wrap (i+(1:Int)),bif conj ([(xs.getD i.toNat eC.dflt).p.node==c.p.node]++([(xs.getD i.toNat eC.dflt).p.port==c.p.port]++[]))&&conj ([(xs.getD i.toNat eC.dflt).t.e==c.t.e]++([(xs.getD i.toNat eC.dflt).t.d==c.t.d]++([(xs.getD i.toNat eC.dflt).t.l0==c.t.l0]++([(xs.getD i.toNat eC.dflt).t.l1==c.t.l1]++([(xs.getD i.toNat eC.dflt).t.l2==c.t.l2]++([(xs.getD i.toNat eC.dflt).t.l3==c.t.l3]++[])))++[]))) then IntKind.i64.wrap (n+(xs.getD i.toNat eC.dflt).n) else n,bif conj ([(xs.getD i.toNat eC.dflt).p.node==c.p.node]++([(xs.getD i.toNat eC.dflt).p.port==c.p.port]++[]))&&conj ([(xs.getD i.toNat eC.dflt).t.e==c.t.e]++([(xs.getD i.toNat eC.dflt).t.d==c.t.d]++([(xs.getD i.toNat eC.dflt).t.l0==c.t.l0]++([(xs.getD i.toNat eC.dflt).t.l1==c.t.l1]++([(xs.getD i.toNat eC.dflt).t.l2==c.t.l2]++([(xs.getD i.toNat eC.dflt).t.l3==c.t.l3]++[])))++[]))) then IntKind.i64.wrap (m+(1:Int)) else m,r,o)
 else (Ex.exit (0:Nat),eC.ag xs,(),c,i,n,m,r,o)
def rsu_side (xs:List Change) (_u:Unit) (c:Change) (i:Int) (n:Int) (m:Int) (r:Int) (o:Bool):Prop:=
 (decide (i<(↑xs.length:Int))=true→((0:Int)≤i∧i<(↑xs.length:Int))∧(conj ([(xs.getD i.toNat eC.dflt).p.node==c.p.node]++([(xs.getD i.toNat eC.dflt).p.port==c.p.port]++[]))=true→(0:Int)≤i∧i<(↑xs.length:Int))∧((conj ([(xs.getD i.toNat eC.dflt).p.node==c.p.node]++([(xs.getD i.toNat eC.dflt).p.port==c.p.port]++[]))&&conj ([(xs.getD i.toNat eC.dflt).t.e==c.t.e]++([(xs.getD i.toNat eC.dflt).t.d==c.t.d]++([(xs.getD i.toNat eC.dflt).t.l0==c.t.l0]++([(xs.getD i.toNat eC.dflt).t.l1==c.t.l1]++([(xs.getD i.toNat eC.dflt).t.l2==c.t.l2]++([(xs.getD i.toNat eC.dflt).t.l3==c.t.l3]++[])))++[]))))=true→(0:Int)≤i∧i<(↑xs.length:Int))∧((conj ([(xs.getD i.toNat eC.dflt).p.node==c.p.node]++([(xs.getD i.toNat eC.dflt).p.port==c.p.port]++[]))&&conj ([(xs.getD i.toNat eC.dflt).t.e==c.t.e]++([(xs.getD i.toNat eC.dflt).t.d==c.t.d]++([(xs.getD i.toNat eC.dflt).t.l0==c.t.l0]++([(xs.getD i.toNat eC.dflt).t.l1==c.t.l1]++([(xs.getD i.toNat eC.dflt).t.l2==c.t.l2]++([(xs.getD i.toNat eC.dflt).t.l3==c.t.l3]++[])))++[])))&&(decide ((xs.getD i.toNat eC.dflt).n > (1099511627776:Int))||decide ((xs.getD i.toNat eC.dflt).n<(-1099511627776:Int))))=true→eC.okL xs)∧((conj ([(xs.getD i.toNat eC.dflt).p.node==c.p.node]++([(xs.getD i.toNat eC.dflt).p.port==c.p.port]++[]))&&conj ([(xs.getD i.toNat eC.dflt).t.e==c.t.e]++([(xs.getD i.toNat eC.dflt).t.d==c.t.d]++([(xs.getD i.toNat eC.dflt).t.l0==c.t.l0]++([(xs.getD i.toNat eC.dflt).t.l1==c.t.l1]++([(xs.getD i.toNat eC.dflt).t.l2==c.t.l2]++([(xs.getD i.toNat eC.dflt).t.l3==c.t.l3]++[])))++[])))&&(decide ((xs.getD i.toNat eC.dflt).n > (1099511627776:Int))||decide ((xs.getD i.toNat eC.dflt).n<(-1099511627776:Int))))=false→((conj ([(xs.getD i.toNat eC.dflt).p.node==c.p.node]++([(xs.getD i.toNat eC.dflt).p.port==c.p.port]++[]))&&conj ([(xs.getD i.toNat eC.dflt).t.e==c.t.e]++([(xs.getD i.toNat eC.dflt).t.d==c.t.d]++([(xs.getD i.toNat eC.dflt).t.l0==c.t.l0]++([(xs.getD i.toNat eC.dflt).t.l1==c.t.l1]++([(xs.getD i.toNat eC.dflt).t.l2==c.t.l2]++([(xs.getD i.toNat eC.dflt).t.l3==c.t.l3]++[])))++[]))))=true→(0:Int)≤i∧i<(↑xs.length:Int))∧eC.okL xs))∧(decide (i<(↑xs.length:Int))=false→eC.okL xs)
theorem rsu_one:((loopsOf Tryz.prog 76).filter fun c=>Nat.beq (lkey c) 4).length=1:=by kernel_rfl
abbrev rsu_GC:Type:=List Change×Change
abbrev rsu_GB:Type:=Unit×Int×Int×Int×Bool
def rsu_f (g:rsu_G):Int×rsu_GC×rsu_GB:=(g.2.2.2.1,(g.1,g.2.2.1),(g.2.1,g.2.2.2.2.1,g.2.2.2.2.2.1,g.2.2.2.2.2.2.1,g.2.2.2.2.2.2.2))
def rsu_g (d:Int×rsu_GC×rsu_GB):rsu_G:=(d.2.1.1,d.2.2.1,d.2.1.2,d.1,d.2.2.2.1,d.2.2.2.2.1,d.2.2.2.2.2.1,d.2.2.2.2.2.2)
theorem rsu_es (g:rsu_G):(rsu_R g.1 g.2.1 g.2.2.1 g.2.2.2.1 g.2.2.2.2.1 g.2.2.2.2.2.1 g.2.2.2.2.2.2.1 g.2.2.2.2.2.2.2).1=.normal∨(rsu_R g.1 g.2.1 g.2.2.1 g.2.2.2.1 g.2.2.2.2.1 g.2.2.2.2.2.1 g.2.2.2.2.2.2.1 g.2.2.2.2.2.2.2).1∈([.ret,.exit 0]:List Ex):=by
 unfold rsu_R
 repeat' (first | (left;rfl) | (right;simp only[cond_true,cond_false];simp;done) | (rw[Bool.cond_eq_ite];split))
noncomputable abbrev rsu_C (Inv:rsu_G→List Prop) (m:rsu_G→Nat):LCon:=loopR [.ret,.exit 0] (loopBody Tryz.prog 76 4) rsu_LP [] 56 Inv (fun g=>rsu_R g.1 g.2.1 g.2.2.1 g.2.2.2.1 g.2.2.2.2.1 g.2.2.2.2.2.1 g.2.2.2.2.2.2.1 g.2.2.2.2.2.2.2) m
theorem rsu_loop (Inv:rsu_G→List Prop) (m:rsu_G→Nat) (hs:∀ g,allP (Inv g)→rsu_side g.1 g.2.1 g.2.2.1 g.2.2.2.1 g.2.2.2.2.1 g.2.2.2.2.2.1 g.2.2.2.2.2.2.1 g.2.2.2.2.2.2.2) (hg:Goes (fun g:rsu_G=>rsu_R g.1 g.2.1 g.2.2.1 g.2.2.2.1 g.2.2.2.2.1 g.2.2.2.2.2.1 g.2.2.2.2.2.2.1 g.2.2.2.2.2.2.2) m fun g=>allP (Inv g)):∀ b∈loopsOf Tryz.prog 76,lkey b=4→LoopOk Tryz.prog b (rsu_C Inv m).g:=loop_run (Γ:=(MTab.gamz tabN0 [] [])) (Λ:=noΛ) (MTab.okz tabN0 [] []) noΛ_ok 100 76 4 56 rsu_LP [] Inv (fun g=>rsu_R g.1 g.2.1 g.2.2.1 g.2.2.2.1 g.2.2.2.2.1 g.2.2.2.2.2.1 g.2.2.2.2.2.2.1 g.2.2.2.2.2.2.2) (fun g=>rsu_side g.1 g.2.1 g.2.2.1 g.2.2.2.1 g.2.2.2.2.1 g.2.2.2.2.2.1 g.2.2.2.2.2.2.1 g.2.2.2.2.2.2.2) m default [.ret,.exit 0] rsu_one (fun rd T B HL HB ds g=>by kernel_rfl) (fun rd T B HL HB ds g=>by kernel_rfl) hs hg rsu_es
abbrev rad_G:Type:=List Change×Unit×Change×Int×List Change×Bool×Bool
noncomputable def rad_LP:LP 1 rad_G:=.pair (.slot 1 0 dLC) (.pair (.fix 1 3 (.p 0 0)) (.pair (.obj 1 0 59 eC) (.pair (.slot 1 9 dI) (.pair (.row 1 6 59 eC) (.pair (.slot 1 7 dBool) (.slot 1 8 dBool))))))
noncomputable def rad_R (xs:List Change) (_u:Unit) (c:Change) (i:Int) (o:List Change) (b:Bool) (k:Bool):Ex×rad_G:=
 bif decide (i<(↑xs.length:Int)) then bif !b&&decide ((bif decide (c.p.node<(xs.getD i.toNat eC.dflt).p.node) then (-1:Int) else bif decide (c.p.node > (xs.getD i.toNat eC.dflt).p.node) then (1:Int) else bif decide (c.p.port<(xs.getD i.toNat eC.dflt).p.port) then (-1:Int) else bif decide (c.p.port > (xs.getD i.toNat eC.dflt).p.port) then (1:Int) else rtcmp_F c.t (xs.getD i.toNat eC.dflt).t)<(0:Int)) then (Ex.normal,eC.ag xs,(),c,IntKind.i64.wrap (i+(1:Int)),eC.lst (min (min (o.length+(1:Nat)+(1:Nat)) (o.length+(1:Nat))) o.length) (eC.els o)++List.map (fun x=>c) (List.range (min (o.length+(1:Nat)+(1:Nat)) (o.length+(1:Nat)) - o.length))++List.map (fun x=>Change.mk (xs.getD i.toNat eC.dflt).p (xs.getD i.toNat eC.dflt).t (bif (bif decide (c.p.node<(xs.getD i.toNat eC.dflt).p.node) then (-1:Int) else bif decide (c.p.node > (xs.getD i.toNat eC.dflt).p.node) then (1:Int) else bif decide (c.p.port<(xs.getD i.toNat eC.dflt).p.port) then (-1:Int) else bif decide (c.p.port > (xs.getD i.toNat eC.dflt).p.port) then (1:Int) else rtcmp_F c.t (xs.getD i.toNat eC.dflt).t)==(0:Int) then IntKind.i64.wrap ((xs.getD i.toNat eC.dflt).n+c.n) else (xs.getD i.toNat eC.dflt).n)) (List.range (o.length+(1:Nat)+(1:Nat) - (o.length+(1:Nat)))),true,bif (bif decide (c.p.node<(xs.getD i.toNat eC.dflt).p.node) then (-1:Int) else bif decide (c.p.node > (xs.getD i.toNat eC.dflt).p.node) then (1:Int) else bif decide (c.p.port<(xs.getD i.toNat eC.dflt).p.port) then (-1:Int) else bif decide (c.p.port > (xs.getD i.toNat eC.dflt).p.port) then (1:Int) else rtcmp_F c.t (xs.getD i.toNat eC.dflt).t)==(0:Int) then !(decide (IntKind.i64.wrap ((xs.getD i.toNat eC.dflt).n+c.n) > (1099511627776:Int))||decide (IntKind.i64.wrap ((xs.getD i.toNat eC.dflt).n+c.n)<(-1099511627776:Int))) else k) else (Ex.normal,eC.ag xs,(),c,IntKind.i64.wrap (i+(1:Int)),eC.lst (min (o.length+(1:Nat)) o.length) (eC.els o)++List.map (fun x=>Change.mk (xs.getD i.toNat eC.dflt).p (xs.getD i.toNat eC.dflt).t (bif (bif decide (c.p.node<(xs.getD i.toNat eC.dflt).p.node) then (-1:Int) else bif decide (c.p.node > (xs.getD i.toNat eC.dflt).p.node) then (1:Int) else bif decide (c.p.port<(xs.getD i.toNat eC.dflt).p.port) then (-1:Int) else bif decide (c.p.port > (xs.getD i.toNat eC.dflt).p.port) then (1:Int) else rtcmp_F c.t (xs.getD i.toNat eC.dflt).t)==(0:Int) then IntKind.i64.wrap ((xs.getD i.toNat eC.dflt).n+c.n) else (xs.getD i.toNat eC.dflt).n)) (List.range (o.length+(1:Nat) - o.length)),(bif decide (c.p.node<(xs.getD i.toNat eC.dflt).p.node) then (-1:Int) else bif decide (c.p.node > (xs.getD i.toNat eC.dflt).p.node) then (1:Int) else bif decide (c.p.port<(xs.getD i.toNat eC.dflt).p.port) then (-1:Int) else bif decide (c.p.port > (xs.getD i.toNat eC.dflt).p.port) then (1:Int) else rtcmp_F c.t (xs.getD i.toNat eC.dflt).t)==(0:Int)||b,bif (bif decide (c.p.node<(xs.getD i.toNat eC.dflt).p.node) then (-1:Int) else bif decide (c.p.node > (xs.getD i.toNat eC.dflt).p.node) then (1:Int) else bif decide (c.p.port<(xs.getD i.toNat eC.dflt).p.port) then (-1:Int) else bif decide (c.p.port > (xs.getD i.toNat eC.dflt).p.port) then (1:Int) else rtcmp_F c.t (xs.getD i.toNat eC.dflt).t)==(0:Int) then !(decide (IntKind.i64.wrap ((xs.getD i.toNat eC.dflt).n+c.n) > (1099511627776:Int))||decide (IntKind.i64.wrap ((xs.getD i.toNat eC.dflt).n+c.n)<(-1099511627776:Int))) else k)
 else (Ex.exit (0:Nat),eC.ag xs,(),c,i,eC.ag o,b,k)
def rad_side (xs:List Change) (_u:Unit) (c:Change) (i:Int) (o:List Change) (b:Bool) (k:Bool):Prop:=
 (decide (i<(↑xs.length:Int))=true→((0:Int)≤i∧i<(↑xs.length:Int))∧((!b&&decide ((bif decide (c.p.node<(xs.getD i.toNat eC.dflt).p.node) then (-1:Int) else bif decide (c.p.node > (xs.getD i.toNat eC.dflt).p.node) then (1:Int) else bif decide (c.p.port<(xs.getD i.toNat eC.dflt).p.port) then (-1:Int) else bif decide (c.p.port > (xs.getD i.toNat eC.dflt).p.port) then (1:Int) else rtcmp_F c.t (xs.getD i.toNat eC.dflt).t)<(0:Int)))=true→(o.length≤o.length∧True∧o.length+(1:Nat)≤maxLen∧(o.length+(1:Nat)) * Tryz.prog.types[(59:Nat)].bytes≤(140737488355328:Nat))∧((0:Int)≤i∧i<(↑xs.length:Int))∧(o.length+(1:Nat)≤o.length+(1:Nat)∧True∧o.length+(1:Nat)+(1:Nat)≤maxLen∧(o.length+(1:Nat)+(1:Nat)) * Tryz.prog.types[(59:Nat)].bytes≤(140737488355328:Nat))∧eC.okL xs∧o.length+(1:Nat)+(1:Nat)≤o.length+(1:Nat)+(1:Nat)∧(∀ (e:Nat),e<min (min (o.length+(1:Nat)+(1:Nat)) (o.length+(1:Nat))) o.length→True)∧(∀ (e:Nat),e<min (o.length+(1:Nat)+(1:Nat)) (o.length+(1:Nat)) - o.length→True)∧∀ (e:Nat),e<o.length+(1:Nat)+(1:Nat) - (o.length+(1:Nat))→True)∧((!b&&decide ((bif decide (c.p.node<(xs.getD i.toNat eC.dflt).p.node) then (-1:Int) else bif decide (c.p.node > (xs.getD i.toNat eC.dflt).p.node) then (1:Int) else bif decide (c.p.port<(xs.getD i.toNat eC.dflt).p.port) then (-1:Int) else bif decide (c.p.port > (xs.getD i.toNat eC.dflt).p.port) then (1:Int) else rtcmp_F c.t (xs.getD i.toNat eC.dflt).t)<(0:Int)))=false→((0:Int)≤i∧i<(↑xs.length:Int))∧(o.length≤o.length∧True∧o.length+(1:Nat)≤maxLen∧(o.length+(1:Nat)) * Tryz.prog.types[(59:Nat)].bytes≤(140737488355328:Nat))∧eC.okL xs∧o.length+(1:Nat)≤o.length+(1:Nat)∧(∀ (e:Nat),e<min (o.length+(1:Nat)) o.length→True)∧∀ (e:Nat),e<o.length+(1:Nat) - o.length→True))∧(decide (i<(↑xs.length:Int))=false→eC.okL xs∧o.length≤o.length∧∀ (e:Nat),e<o.length→True)
theorem rad_one:((loopsOf Tryz.prog 77).filter fun c=>Nat.beq (lkey c) 7).length=1:=by kernel_rfl
abbrev rad_GC:Type:=List Change×Change
abbrev rad_GB:Type:=Unit×List Change×Bool×Bool
def rad_f (g:rad_G):Int×rad_GC×rad_GB:=(g.2.2.2.1,(g.1,g.2.2.1),(g.2.1,g.2.2.2.2.1,g.2.2.2.2.2.1,g.2.2.2.2.2.2))
def rad_g (d:Int×rad_GC×rad_GB):rad_G:=(d.2.1.1,d.2.2.1,d.2.1.2,d.1,d.2.2.2.1,d.2.2.2.2.1,d.2.2.2.2.2)
theorem rad_es (g:rad_G):(rad_R g.1 g.2.1 g.2.2.1 g.2.2.2.1 g.2.2.2.2.1 g.2.2.2.2.2.1 g.2.2.2.2.2.2).1=.normal∨(rad_R g.1 g.2.1 g.2.2.1 g.2.2.2.1 g.2.2.2.2.1 g.2.2.2.2.2.1 g.2.2.2.2.2.2).1∈([.exit 0]:List Ex):=by
 unfold rad_R
 repeat' (first | (left;rfl) | (right;simp only[cond_true,cond_false];simp;done) | (rw[Bool.cond_eq_ite];split))
noncomputable abbrev rad_C (Inv:rad_G→List Prop) (m:rad_G→Nat):LCon:=loopR [.exit 0] (loopBody Tryz.prog 77 7) rad_LP [] 65 Inv (fun g=>rad_R g.1 g.2.1 g.2.2.1 g.2.2.2.1 g.2.2.2.2.1 g.2.2.2.2.2.1 g.2.2.2.2.2.2) m
theorem rad_loop (Inv:rad_G→List Prop) (m:rad_G→Nat) (hs:∀ g,allP (Inv g)→rad_side g.1 g.2.1 g.2.2.1 g.2.2.2.1 g.2.2.2.2.1 g.2.2.2.2.2.1 g.2.2.2.2.2.2) (hg:Goes (fun g:rad_G=>rad_R g.1 g.2.1 g.2.2.1 g.2.2.2.1 g.2.2.2.2.1 g.2.2.2.2.2.1 g.2.2.2.2.2.2) m fun g=>allP (Inv g)):∀ b∈loopsOf Tryz.prog 77,lkey b=7→LoopOk Tryz.prog b (rad_C Inv m).g:=loop_run (Γ:=(MTab.gamz tabN0 [] [])) (Λ:=noΛ) (MTab.okz tabN0 [] []) noΛ_ok 100 77 7 65 rad_LP [] Inv (fun g=>rad_R g.1 g.2.1 g.2.2.1 g.2.2.2.1 g.2.2.2.2.1 g.2.2.2.2.2.1 g.2.2.2.2.2.2) (fun g=>rad_side g.1 g.2.1 g.2.2.1 g.2.2.2.1 g.2.2.2.2.1 g.2.2.2.2.2.1 g.2.2.2.2.2.2) m default [.exit 0] rad_one (fun rd T B HL HB ds g=>by kernel_rfl) (fun rd T B HL HB ds g=>by kernel_rfl) hs hg rad_es
abbrev rno_G:Type:=List Change×Int×List Change
noncomputable def rno_LP:LP 0 rno_G:=.pair (.slot 0 0 dLC) (.pair (.slot 0 4 dI) (.row 0 3 59 eC))
noncomputable def rno_R (xs:List Change) (i:Int) (o:List Change):Ex×rno_G:=
 bif decide (i<(↑xs.length:Int)) then bif (xs.getD i.toNat eC.dflt).n != (0:Int) then (Ex.normal,eC.ag xs,IntKind.i64.wrap (i+(1:Int)),eC.lst (min (o.length+(1:Nat)) o.length) (eC.els o)++List.map (fun x=>xs.getD i.toNat eC.dflt) (List.range (o.length+(1:Nat) - o.length))) else (Ex.normal,eC.ag xs,IntKind.i64.wrap (i+(1:Int)),eC.ag o)
 else (Ex.exit (0:Nat),eC.ag xs,i,eC.ag o)
def rno_side (xs:List Change) (i:Int) (o:List Change):Prop:=
 (decide (i<(↑xs.length:Int))=true→((0:Int)≤i∧i<(↑xs.length:Int))∧(((xs.getD i.toNat eC.dflt).n != (0:Int))=true→((0:Int)≤i∧i<(↑xs.length:Int))∧(o.length≤o.length∧True∧o.length+(1:Nat)≤maxLen∧(o.length+(1:Nat)) * Tryz.prog.types[(59:Nat)].bytes≤(140737488355328:Nat))∧eC.okL xs∧o.length+(1:Nat)≤o.length+(1:Nat)∧(∀ (e:Nat),e<min (o.length+(1:Nat)) o.length→True)∧∀ (e:Nat),e<o.length+(1:Nat) - o.length→True)∧(((xs.getD i.toNat eC.dflt).n != (0:Int))=false→eC.okL xs∧o.length≤o.length∧∀ (e:Nat),e<o.length→True))∧(decide (i<(↑xs.length:Int))=false→eC.okL xs∧o.length≤o.length∧∀ (e:Nat),e<o.length→True)
theorem rno_one:((loopsOf Tryz.prog 78).filter fun c=>Nat.beq (lkey c) 3).length=1:=by kernel_rfl
abbrev rno_GC:Type:=List Change
abbrev rno_GB:Type:=List Change
def rno_f (g:rno_G):Int×rno_GC×rno_GB:=(g.2.1,g.1,g.2.2)
def rno_g (d:Int×rno_GC×rno_GB):rno_G:=(d.2.1,d.1,d.2.2)
theorem rno_es (g:rno_G):(rno_R g.1 g.2.1 g.2.2).1=.normal∨(rno_R g.1 g.2.1 g.2.2).1∈([.exit 0]:List Ex):=by
 unfold rno_R
 repeat' (first | (left;rfl) | (right;simp only[cond_true,cond_false];simp;done) | (rw[Bool.cond_eq_ite];split))
noncomputable abbrev rno_C (Inv:rno_G→List Prop) (m:rno_G→Nat):LCon:=loopR [.exit 0] (loopBody Tryz.prog 78 3) rno_LP [] 25 Inv (fun g=>rno_R g.1 g.2.1 g.2.2) m
theorem rno_loop (Inv:rno_G→List Prop) (m:rno_G→Nat) (hs:∀ g,allP (Inv g)→rno_side g.1 g.2.1 g.2.2) (hg:Goes (fun g:rno_G=>rno_R g.1 g.2.1 g.2.2) m fun g=>allP (Inv g)):∀ b∈loopsOf Tryz.prog 78,lkey b=3→LoopOk Tryz.prog b (rno_C Inv m).g:=loop_run (Γ:=(MTab.gamz tabN0 [] [])) (Λ:=noΛ) (MTab.okz tabN0 [] []) noΛ_ok 100 78 3 25 rno_LP [] Inv (fun g=>rno_R g.1 g.2.1 g.2.2) (fun g=>rno_side g.1 g.2.1 g.2.2) m default [.exit 0] rno_one (fun rd T B HL HB ds g=>by kernel_rfl) (fun rd T B HL HB ds g=>by kernel_rfl) hs hg rno_es
abbrev rn3_G:Type:=List Change×Int×Int×Bool
noncomputable def rn3_LP:LP 0 rn3_G:=.pair (.slot 0 0 dLC) (.pair (.slot 0 6 dI) (.pair (.slot 0 10 dI) (.slot 0 9 dBool)))
noncomputable def rn3_R (xs:List Change) (j:Int) (i:Int) (b:Bool):Ex×rn3_G:=
 bif decide (i<j) then (Ex.normal,eC.ag xs,j,IntKind.i64.wrap (i+(1:Int)),b||conj ([(xs.getD i.toNat eC.dflt).p.node==(xs.getD j.toNat eC.dflt).p.node]++([(xs.getD i.toNat eC.dflt).p.port==(xs.getD j.toNat eC.dflt).p.port]++[]))&&conj ([(xs.getD i.toNat eC.dflt).t.e==(xs.getD j.toNat eC.dflt).t.e]++([(xs.getD i.toNat eC.dflt).t.d==(xs.getD j.toNat eC.dflt).t.d]++([(xs.getD i.toNat eC.dflt).t.l0==(xs.getD j.toNat eC.dflt).t.l0]++([(xs.getD i.toNat eC.dflt).t.l1==(xs.getD j.toNat eC.dflt).t.l1]++([(xs.getD i.toNat eC.dflt).t.l2==(xs.getD j.toNat eC.dflt).t.l2]++([(xs.getD i.toNat eC.dflt).t.l3==(xs.getD j.toNat eC.dflt).t.l3]++[])))++[]))))
 else (Ex.exit (4:Nat),eC.ag xs,j,i,b)
def rn3_side (xs:List Change) (j:Int) (i:Int) (b:Bool):Prop:=
 (decide (i<j)=true→((!b)=true→(0:Int)≤i∧i<(↑xs.length:Int))∧((!b)=true→(0:Int)≤j∧j<(↑xs.length:Int))∧((!b)=true→conj ([(xs.getD i.toNat eC.dflt).p.node==(xs.getD j.toNat eC.dflt).p.node]++([(xs.getD i.toNat eC.dflt).p.port==(xs.getD j.toNat eC.dflt).p.port]++[]))=true→(0:Int)≤i∧i<(↑xs.length:Int))∧((!b)=true→conj ([(xs.getD i.toNat eC.dflt).p.node==(xs.getD j.toNat eC.dflt).p.node]++([(xs.getD i.toNat eC.dflt).p.port==(xs.getD j.toNat eC.dflt).p.port]++[]))=true→(0:Int)≤j∧j<(↑xs.length:Int))∧eC.okL xs)∧(decide (i<j)=false→eC.okL xs)
theorem rn3_one:((loopsOf Tryz.prog 30).filter fun c=>Nat.beq (lkey c) 15).length=1:=by kernel_rfl
abbrev rn3_GC:Type:=List Change×Int
abbrev rn3_GB:Type:=Bool
def rn3_f (g:rn3_G):Int×rn3_GC×rn3_GB:=(g.2.2.1,(g.1,g.2.1),g.2.2.2)
def rn3_g (d:Int×rn3_GC×rn3_GB):rn3_G:=(d.2.1.1,d.2.1.2,d.1,d.2.2)
theorem rn3_es (g:rn3_G):(rn3_R g.1 g.2.1 g.2.2.1 g.2.2.2).1=.normal∨(rn3_R g.1 g.2.1 g.2.2.1 g.2.2.2).1∈([.exit 4]:List Ex):=by
 unfold rn3_R
 repeat' (first | (left;rfl) | (right;simp only[cond_true,cond_false];simp;done) | (rw[Bool.cond_eq_ite];split))
noncomputable abbrev rn3_C (Inv:rn3_G→List Prop) (m:rn3_G→Nat):LCon:=loopR [.exit 4] (loopBody Tryz.prog 30 15) rn3_LP [] 94 Inv (fun g=>rn3_R g.1 g.2.1 g.2.2.1 g.2.2.2) m
theorem rn3_loop (Inv:rn3_G→List Prop) (m:rn3_G→Nat) (hs:∀ g,allP (Inv g)→rn3_side g.1 g.2.1 g.2.2.1 g.2.2.2) (hg:Goes (fun g:rn3_G=>rn3_R g.1 g.2.1 g.2.2.1 g.2.2.2) m fun g=>allP (Inv g)):∀ b∈loopsOf Tryz.prog 30,lkey b=15→LoopOk Tryz.prog b (rn3_C Inv m).g:=loop_run (Γ:=(MTab.gamz tabN0 [] [])) (Λ:=noΛ) (MTab.okz tabN0 [] []) noΛ_ok 100 30 15 94 rn3_LP [] Inv (fun g=>rn3_R g.1 g.2.1 g.2.2.1 g.2.2.2) (fun g=>rn3_side g.1 g.2.1 g.2.2.1 g.2.2.2) m default [.exit 4] rn3_one (fun rd T B HL HB ds g=>by kernel_rfl) (fun rd T B HL HB ds g=>by kernel_rfl) hs hg rn3_es
end Go.Proofs.YthnojkbkojpadaaGreat

namespace Go.Proofs.YthnojkbkojpadaaGreat
open Go.RowKit Go.Sx Go.Lp
set_option maxRecDepth 100000
theorem conjC (a b:Change):conj ([a.p.node==b.p.node]++([a.p.port==b.p.port]++[])++([a.t.e==b.t.e]++([a.t.d==b.t.d]++([a.t.l0==b.t.l0]++([a.t.l1==b.t.l1]++([a.t.l2==b.t.l2]++([a.t.l3==b.t.l3]++[])))++[]))++([a.n==b.n]++[])))=decide (a=b):=by
 obtain ⟨⟨a1,a2⟩,⟨e,d,p0,p1,p2,p3⟩,n⟩:=a
 obtain ⟨⟨b1,b2⟩,⟨e',d',p0',p1',p2',p3'⟩,n'⟩:=b
 simp[conj]
 rw[Bool.eq_iff_iff]
 simp[and_assoc]
theorem byt59 (h:59<Tryz.prog.types.size):(Tryz.prog.types[(59:Nat)]'h).bytes=72:=by kernel_rfl
noncomputable def eqc_S (c:eqc_GC) (b:eqc_GB) (i:Int) (v:Change):Ex×eqc_GB:=bif !decide (v=(c.2.1.getD i.toNat eC.dflt)) then (.ret,false) else (.normal,b)
def eqc_K (c:eqc_GC) (b:eqc_GB) (i:Int):Prop:=c.1.length=c.2.1.length
abbrev eqc_I (g:eqc_G):List Prop:=ixI (fun c:eqc_GC=>c.2.2) (fun c:eqc_GC=>c.1) eqc_K (eqc_f g)
abbrev eqc_M (g:eqc_G):Nat:=ixM (fun c:eqc_GC=>c.2.2) (eqc_f g)
theorem eqc_P:ixP eqc_S (fun c:eqc_GC=>c.1) eqc_K:=fun _ _ _ _ h _ _=>h
noncomputable abbrev eqc_RR (g:eqc_G):Ex×eqc_G:=eqc_R g.1 g.2.1 g.2.2.1 g.2.2.2.1 g.2.2.2.2
theorem eqc_RF (d:Int×eqc_GC×eqc_GB) (hi:allP (ixI (fun c:eqc_GC=>c.2.2) (fun c:eqc_GC=>c.1) eqc_K d)):eqc_RR (eqc_g d)=((ixF 0 (fun c:eqc_GC=>c.2.2) (fun c:eqc_GC=>c.1) eC.dflt eqc_S d).1,eqc_g (ixF 0 (fun c:eqc_GC=>c.2.2) (fun c:eqc_GC=>c.1) eC.dflt eqc_S d).2):=by
 obtain ⟨i,⟨xs,ys,n⟩,r⟩:=d
 show eqc_R xs ys n i r=_
 unfold eqc_R ixF eqc_S
 simp only[El.ag_eq,conjC]
 cases decide (i<n) with
 | false=>rfl
 | true=>
  simp only[cond_true]
  generalize (!decide ((xs.getD i.toNat eC.dflt)=(ys.getD i.toNat eC.dflt)))=z
  cases z <;> rfl
theorem eqc_ok:∀ b∈loopsOf Tryz.prog 31,lkey b=4→LoopOk Tryz.prog b (eqc_C eqc_I eqc_M).g:=by
 refine eqc_loop eqc_I eqc_M (fun g hi=>?_) (ix_conj_goes (fun _=>rfl) (fun _=>rfl) eqc_RF eqc_P)
 obtain ⟨xs,ys,n,i,r⟩:=g
 obtain ⟨h1,h2,h3,h4,h5⟩:=hi _ (List.mem_cons_self ..)
 have h1:n=(xs.length:Int):=h1
 have h3:0≤i:=h3
 have h5:xs.length=ys.length:=h5
 show eqc_side xs ys n i r
 unfold eqc_side
 simp only[decide_eq_true_eq,decide_eq_false_iff_not]
 have k0:∀ e:Nat,e<xs.length→eC.Ok (eC.els xs e):=fun e _=>eC.ok_els xs e
 have k1:∀ e:Nat,e<ys.length→eC.Ok (eC.els ys e):=fun e _=>eC.ok_els ys e
 clear hi
 repeat' (first | exact k0 | exact k1 | apply And.intro | intro _)
 all_goals omega
theorem eqc_run (c:eqc_GC) (b:eqc_GB) (k1:c.2.2=((c.1).length:Int)) (k2:(c.1).length≤maxLen) (k3:eqc_K c b 0):loopF eqc_RR eqc_M (eqc_g (0,c,b))=((scan 0 (eqc_S c) 0 (c.1) b).1,eqc_g ((scan 0 (eqc_S c) 0 (c.1) b).2.1,c,(scan 0 (eqc_S c) 0 (c.1) b).2.2)):=ix_conj_run (φ:=eqc_f) (ψ:=eqc_g) (fun _=>rfl) (fun _=>rfl) eqc_RF eqc_P c b k1 k2 k3
noncomputable def ix1_S (c:ix1_GC) (b:ix1_GB) (i:Int) (v:Change):Ex×ix1_GB:=bif tcheck_F v.t != (0:Int) then (.ret,(),i) else (.normal,b.1,b.2)
def ix1_K (c:ix1_GC) (b:ix1_GB) (i:Int):Prop:=True
abbrev ix1_I (g:ix1_G):List Prop:=ixI (fun c:ix1_GC=>c.2) (fun c:ix1_GC=>c.1) ix1_K (ix1_f g)
abbrev ix1_M (g:ix1_G):Nat:=ixM (fun c:ix1_GC=>c.2) (ix1_f g)
theorem ix1_P:ixP ix1_S (fun c:ix1_GC=>c.1) ix1_K:=fun _ _ _ _ h _ _=>h
noncomputable abbrev ix1_RR (g:ix1_G):Ex×ix1_G:=ix1_R g.1 g.2.1 g.2.2.1 g.2.2.2.1 g.2.2.2.2
theorem ix1_RF (d:Int×ix1_GC×ix1_GB) (hi:allP (ixI (fun c:ix1_GC=>c.2) (fun c:ix1_GC=>c.1) ix1_K d)):ix1_RR (ix1_g d)=((ixF 0 (fun c:ix1_GC=>c.2) (fun c:ix1_GC=>c.1) eC.dflt ix1_S d).1,ix1_g (ixF 0 (fun c:ix1_GC=>c.2) (fun c:ix1_GC=>c.1) eC.dflt ix1_S d).2):=by
 obtain ⟨i,⟨xs,n⟩,⟨⟨⟩,r⟩⟩:=d
 show ix1_R xs () n i r=_
 unfold ix1_R ixF ix1_S
 simp only[El.ag_eq]
 cases decide (i<n) with
 | false=>rfl
 | true=>
  simp only[cond_true]
  generalize (tcheck_F (xs.getD i.toNat eC.dflt).t != (0:Int))=z
  cases z <;> rfl
theorem ix1_ok:∀ b∈loopsOf Tryz.prog 115,lkey b=2→LoopOk Tryz.prog b (ix1_C ix1_I ix1_M).g:=by
 refine ix1_loop ix1_I ix1_M (fun g hi=>?_) (ix_conj_goes (fun _=>rfl) (fun _=>rfl) ix1_RF ix1_P)
 obtain ⟨xs,⟨⟩,n,i,r⟩:=g
 obtain ⟨h1,h2,h3,h4,h5⟩:=hi _ (List.mem_cons_self ..)
 have h1:n=(xs.length:Int):=h1
 have h3:0≤i:=h3
 have h5:True:=h5
 show ix1_side xs () n i r
 unfold ix1_side
 simp only[El.okL_eq,decide_eq_true_eq,decide_eq_false_iff_not,Bool.and_eq_true]
 have k0:∀ e:Nat,e<xs.length→eC.Ok (eC.els xs e):=fun e _=>eC.ok_els xs e
 clear hi
 repeat' (first | exact k0 | apply And.intro | intro _)
 all_goals omega
theorem ix1_run (c:ix1_GC) (b:ix1_GB) (k1:c.2=((c.1).length:Int)) (k2:(c.1).length≤maxLen) (k3:ix1_K c b 0):loopF ix1_RR ix1_M (ix1_g (0,c,b))=((scan 0 (ix1_S c) 0 (c.1) b).1,ix1_g ((scan 0 (ix1_S c) 0 (c.1) b).2.1,c,(scan 0 (ix1_S c) 0 (c.1) b).2.2)):=ix_conj_run (φ:=ix1_f) (ψ:=ix1_g) (fun _=>rfl) (fun _=>rfl) ix1_RF ix1_P c b k1 k2 k3
noncomputable def ix2_S (c:ix2_GC) (b:ix2_GB) (i:Int) (v:Change):Ex×ix2_GB:=bif !(decide (v.n≥(-1099511627776:Int))&&decide (v.n≤(1099511627776:Int))) then (.ret,(),i) else (.normal,b.1,b.2)
def ix2_K (c:ix2_GC) (b:ix2_GB) (i:Int):Prop:=True
abbrev ix2_I (g:ix2_G):List Prop:=ixI (fun c:ix2_GC=>c.2) (fun c:ix2_GC=>c.1) ix2_K (ix2_f g)
abbrev ix2_M (g:ix2_G):Nat:=ixM (fun c:ix2_GC=>c.2) (ix2_f g)
theorem ix2_P:ixP ix2_S (fun c:ix2_GC=>c.1) ix2_K:=fun _ _ _ _ h _ _=>h
noncomputable abbrev ix2_RR (g:ix2_G):Ex×ix2_G:=ix2_R g.1 g.2.1 g.2.2.1 g.2.2.2.1 g.2.2.2.2
theorem ix2_RF (d:Int×ix2_GC×ix2_GB) (hi:allP (ixI (fun c:ix2_GC=>c.2) (fun c:ix2_GC=>c.1) ix2_K d)):ix2_RR (ix2_g d)=((ixF 0 (fun c:ix2_GC=>c.2) (fun c:ix2_GC=>c.1) eC.dflt ix2_S d).1,ix2_g (ixF 0 (fun c:ix2_GC=>c.2) (fun c:ix2_GC=>c.1) eC.dflt ix2_S d).2):=by
 obtain ⟨i,⟨xs,n⟩,⟨⟨⟩,r⟩⟩:=d
 show ix2_R xs () n i r=_
 unfold ix2_R ixF ix2_S
 simp only[El.ag_eq]
 cases decide (i<n) with
 | false=>rfl
 | true=>
  simp only[cond_true]
  generalize (!(decide ((xs.getD i.toNat eC.dflt).n≥(-1099511627776:Int))&&decide ((xs.getD i.toNat eC.dflt).n≤(1099511627776:Int))))=z
  cases z <;> rfl
theorem ix2_ok:∀ b∈loopsOf Tryz.prog 115,lkey b=2→LoopOk Tryz.prog b (ix2_C ix2_I ix2_M).g:=by
 refine ix2_loop ix2_I ix2_M (fun g hi=>?_) (ix_conj_goes (fun _=>rfl) (fun _=>rfl) ix2_RF ix2_P)
 obtain ⟨xs,⟨⟩,n,i,r⟩:=g
 obtain ⟨h1,h2,h3,h4,h5⟩:=hi _ (List.mem_cons_self ..)
 have h1:n=(xs.length:Int):=h1
 have h3:0≤i:=h3
 have h5:True:=h5
 show ix2_side xs () n i r
 unfold ix2_side
 simp only[El.okL_eq,decide_eq_true_eq,decide_eq_false_iff_not,Bool.and_eq_true]
 have k0:∀ e:Nat,e<xs.length→eC.Ok (eC.els xs e):=fun e _=>eC.ok_els xs e
 clear hi
 repeat' (first | exact k0 | apply And.intro | intro _)
 all_goals omega
theorem ix2_run (c:ix2_GC) (b:ix2_GB) (k1:c.2=((c.1).length:Int)) (k2:(c.1).length≤maxLen) (k3:ix2_K c b 0):loopF ix2_RR ix2_M (ix2_g (0,c,b))=((scan 0 (ix2_S c) 0 (c.1) b).1,ix2_g ((scan 0 (ix2_S c) 0 (c.1) b).2.1,c,(scan 0 (ix2_S c) 0 (c.1) b).2.2)):=ix_conj_run (φ:=ix2_f) (ψ:=ix2_g) (fun _=>rfl) (fun _=>rfl) ix2_RF ix2_P c b k1 k2 k3
noncomputable def rn1_S (c:rn1_GC) (b:rn1_GB) (i:Int) (v:Change):Ex×rn1_GB:=bif rtcheck_F v.t != (0:Int) then (.ret,(),(10:Int)) else (.normal,b.1,b.2)
def rn1_K (c:rn1_GC) (b:rn1_GB) (i:Int):Prop:=True
abbrev rn1_I (g:rn1_G):List Prop:=ixI (fun c:rn1_GC=>(c.length:Int)) (fun c:rn1_GC=>c) rn1_K (rn1_f g)
abbrev rn1_M (g:rn1_G):Nat:=ixM (fun c:rn1_GC=>(c.length:Int)) (rn1_f g)
theorem rn1_P:ixP rn1_S (fun c:rn1_GC=>c) rn1_K:=fun _ _ _ _ h _ _=>h
noncomputable abbrev rn1_RR (g:rn1_G):Ex×rn1_G:=rn1_R g.1 g.2.1 g.2.2.1 g.2.2.2
theorem rn1_RF (d:Int×rn1_GC×rn1_GB) (hi:allP (ixI (fun c:rn1_GC=>(c.length:Int)) (fun c:rn1_GC=>c) rn1_K d)):rn1_RR (rn1_g d)=((ixF 0 (fun c:rn1_GC=>(c.length:Int)) (fun c:rn1_GC=>c) eC.dflt rn1_S d).1,rn1_g (ixF 0 (fun c:rn1_GC=>(c.length:Int)) (fun c:rn1_GC=>c) eC.dflt rn1_S d).2):=by
 obtain ⟨i,xs,⟨⟨⟩,r⟩⟩:=d
 show rn1_R xs i () r=_
 unfold rn1_R ixF rn1_S
 simp only[El.ag_eq]
 cases decide (i<(xs.length:Int)) with
 | false=>rfl
 | true=>
  simp only[cond_true]
  generalize (rtcheck_F (xs.getD i.toNat eC.dflt).t != (0:Int))=z
  cases z <;> rfl
theorem rn1_ok:∀ b∈loopsOf Tryz.prog 30,lkey b=2→LoopOk Tryz.prog b (rn1_C rn1_I rn1_M).g:=by
 refine rn1_loop rn1_I rn1_M (fun g hi=>?_) (ix_conj_goes (fun _=>rfl) (fun _=>rfl) rn1_RF rn1_P)
 obtain ⟨xs,i,⟨⟩,r⟩:=g
 obtain ⟨h1,h2,h3,h4,h5⟩:=hi _ (List.mem_cons_self ..)
 have h1:(xs.length:Int)=(xs.length:Int):=h1
 have h3:0≤i:=h3
 have h5:True:=h5
 show rn1_side xs i () r
 unfold rn1_side
 simp only[El.okL_eq,decide_eq_true_eq,decide_eq_false_iff_not,Bool.and_eq_true]
 have k0:∀ e:Nat,e<xs.length→eC.Ok (eC.els xs e):=fun e _=>eC.ok_els xs e
 clear hi
 repeat' (first | exact k0 | apply And.intro | intro _)
 all_goals omega
noncomputable def rno_S (c:rno_GC) (b:rno_GB) (i:Int) (v:Change):Ex×rno_GB:=(.normal,bif v.n != (0:Int) then b++[v] else b)
def rno_K (c:rno_GC) (b:rno_GB) (i:Int):Prop:=(c).length≤KS∧(List.length b:Int)≤i
abbrev rno_I (g:rno_G):List Prop:=ixI (fun c:rno_GC=>(c.length:Int)) (fun c:rno_GC=>c) rno_K (rno_f g)
abbrev rno_M (g:rno_G):Nat:=ixM (fun c:rno_GC=>(c.length:Int)) (rno_f g)
theorem rno_P:ixP rno_S (fun c:rno_GC=>c) rno_K:=by
 intro c b i a h _ _
 obtain ⟨h1,h2⟩:=h
 refine ⟨h1,?_⟩
 have h2:(List.length b:Int)≤(i:Int):=h2
 show (List.length (rno_S c b i a).2:Int)≤(i:Int)+1
 unfold rno_S
 generalize (a.n != (0:Int))=z0
 cases z0 <;> simp only[cond_true,cond_false,List.length_append,List.length_cons,List.length_nil] <;> omega
noncomputable abbrev rno_RR (g:rno_G):Ex×rno_G:=rno_R g.1 g.2.1 g.2.2
theorem rno_RF (d:Int×rno_GC×rno_GB) (hi:allP (ixI (fun c:rno_GC=>(c.length:Int)) (fun c:rno_GC=>c) rno_K d)):rno_RR (rno_g d)=((ixF 0 (fun c:rno_GC=>(c.length:Int)) (fun c:rno_GC=>c) eC.dflt rno_S d).1,rno_g (ixF 0 (fun c:rno_GC=>(c.length:Int)) (fun c:rno_GC=>c) eC.dflt rno_S d).2):=by
 obtain ⟨i,xs,o⟩:=d
 show rno_R xs i o=_
 unfold rno_R ixF rno_S
 simp only[El.ag_eq,lst_snoc]
 cases decide (i<(xs.length:Int)) with
 | false=>rfl
 | true=>
  simp only[cond_true]
  generalize ((xs.getD i.toNat eC.dflt).n != (0:Int))=z0
  cases z0 <;> rfl
theorem rno_ok:∀ b∈loopsOf Tryz.prog 78,lkey b=3→LoopOk Tryz.prog b (rno_C rno_I rno_M).g:=by
 refine rno_loop rno_I rno_M (fun g hi=>?_) (ix_conj_goes (fun _=>rfl) (fun _=>rfl) rno_RF rno_P)
 obtain ⟨xs,i,o⟩:=g
 obtain ⟨h1,h2,h3,h4,h5,h6⟩:=hi _ (List.mem_cons_self ..)
 have h1:(xs.length:Int)=(xs.length:Int):=h1
 have h3:0≤i:=h3
 have h5:xs.length≤1000000:=h5
 have h6:(o.length:Int)≤i:=h6
 show rno_side xs i o
 unfold rno_side
 simp only[byt59,El.okL_eq,El.ag_eq,decide_eq_true_eq,decide_eq_false_iff_not]
 have k0:∀ e:Nat,e<xs.length→eC.Ok (eC.els xs e):=fun e _=>eC.ok_els xs e
 clear hi
 repeat' (first | exact k0 | apply And.intro | intro _)
 all_goals (first | trivial | omega | (unfold maxLen;omega))
theorem rno_run (c:rno_GC) (b:rno_GB) (k1:(c.length:Int)=((c).length:Int)) (k2:(c).length≤KS) (k3:List.length b=0):loopF rno_RR rno_M (rno_g (0,c,b))=((scan 0 (rno_S c) 0 (c) b).1,rno_g ((scan 0 (rno_S c) 0 (c) b).2.1,c,(scan 0 (rno_S c) 0 (c) b).2.2)):=ix_conj_run (φ:=rno_f) (ψ:=rno_g) (fun _=>rfl) (fun _=>rfl) rno_RF rno_P c b k1 (Nat.le_trans k2 (by decide)) ⟨k2,by rw[k3];decide⟩
theorem rno_ix (c:rno_GC) (b:rno_GB) (k1:(c.length:Int)=((c).length:Int)) (k2:(c).length≤KS) (k3:List.length b=0):ixJ (fun c:rno_GC=>(c.length:Int)) (fun c:rno_GC=>c) rno_K (0,c,b):=ixJ0 k1 (Nat.le_trans k2 (by decide)) ⟨k2,by rw[k3];decide⟩
noncomputable def ltN2a:LTab Tryz.prog:=((((LTab.nil.cons 115 2 (ix1_C ix1_I ix1_M) ix1_ok).cons 31 4 (eqc_C eqc_I eqc_M) eqc_ok).cons 30 2 (rn1_C rn1_I rn1_M) rn1_ok).cons 78 3 (rno_C rno_I rno_M) rno_ok)
noncomputable abbrev lamN2a:Lam:=ltN2a.lam
theorem lamN2a_ok:∀ f k L,lamN2a f k=some L→∀ b∈loopsOf Tryz.prog f,lkey b=k→LoopOk Tryz.prog b L.g:=ltN2a.ok
noncomputable def ltN2b:LTab Tryz.prog:=(LTab.nil.cons 115 2 (ix2_C ix2_I ix2_M) ix2_ok)
noncomputable abbrev lamN2b:Lam:=ltN2b.lam
theorem lamN2b_ok:∀ f k L,lamN2b f k=some L→∀ b∈loopsOf Tryz.prog f,lkey b=k→LoopOk Tryz.prog b L.g:=ltN2b.ok
end Go.Proofs.YthnojkbkojpadaaGreat
