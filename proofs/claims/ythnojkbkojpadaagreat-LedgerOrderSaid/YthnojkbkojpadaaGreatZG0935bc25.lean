/- Times, summaries, places, changes as plain data; a ledger as a whole. -/
import Derived.Test.YthnojkbkojpadaaGreatRows
import Derived.Test.YthnojkbkojpadaaGreatZG04e10fff
import Derived.Test.YthnojkbkojpadaaGreatZG0639e578
import Derived.Test.YthnojkbkojpadaaGreatZG07dea7ef
import Derived.Test.YthnojkbkojpadaaGreatZG056c14bf
set_option maxRecDepth 100000
set_option linter.unusedVariables false
set_option linter.unusedSimpArgs false
set_option linter.constructorNameAsVariable false
set_option linter.all false

namespace Go.Proofs.YthnojkbkojpadaaGreat
open Go.RowKit Go.Sx Go.Lp
structure S where
 f:Int
 k:Int
 a:Int
 n:Int
 p0:Int
 p1:Int
 p2:Int
 p3:Int
deriving DecidableEq,Inhabited
abbrev eI:El Int:=eInt .i64
abbrev I4:=Int×Int×Int×Int
abbrev e4:El I4:=.pair eI (.pair eI (.pair eI eI))
abbrev I8:=Int×Int×Int×Int×I4
def S.ofP:I8->S:=λ(f,k,a,n,p0,p1,p2,p3)=>⟨f,k,a,n,p0,p1,p2,p3⟩
def S.toP(s:S):I8:=(s.f,s.k,s.a,s.n,s.p0,s.p1,s.p2,s.p3)
def eS:El S:=.iso (.pair eI (.pair eI (.pair eI (.pair eI e4)))) S.ofP S.toP (λ_=>rfl) (λ_=>rfl)
structure T where
 e:Int
 d:Int
 l0:Int
 l1:Int
 l2:Int
 l3:Int
deriving DecidableEq,Inhabited
abbrev I6:=Int×Int×I4
def T.ofP:I6->T:=λ(e,d,l0,l1,l2,l3)=>⟨e,d,l0,l1,l2,l3⟩
def T.toP(t:T):I6:=(t.e,t.d,t.l0,t.l1,t.l2,t.l3)
def eT:El T:=.iso (.pair eI (.pair eI e4)) T.ofP T.toP (λ_=>rfl) (λ_=>rfl)
abbrev dI:Dv Int:=dInt .i64
abbrev dS:Dv S:=.agg eS
abbrev dT:Dv T:=.agg eT
abbrev dTE:Dv (T×Int):=.tup (.cons dT (.one dI))
abbrev aS:DA S:=.one dS
abbrev aSS:DA (S×S):=.cons dS (.one dS)
abbrev aT:DA T:=.one dT
abbrev aI:DA Int:=.one dI
abbrev aII:DA (Int×Int):=.cons dI (.one dI)
abbrev aST:DA (S×T):=.cons dS (.one dT)
abbrev aTT:DA (T×T):=.cons dT (.one dT)
theorem puI(r:Int):Pu (dI.enc r):=pu_v _
theorem puB(r:Bool):Pu (q0l.enc r):=pu_v _
theorem pus4(a b c d:Int):Pus [.v (.int .i64 a),.v (.int .i64 b),.v (.int .i64 c),.v (.int .i64 d)]:=q1c (pu_v _) (q1c (pu_v _) (q1c (pu_v _) (q1c (pu_v _) qcy)))
theorem puS(r:S):Pu (dS.enc r):=zfa (q1c (pu_v _) (q1c (pu_v _) (q1c (pu_v _) (q1c (pu_v _) (pus4 _ _ _ _)))))
theorem puT(r:T):Pu (dT.enc r):=zfa (q1c (pu_v _) (q1c (pu_v _) (pus4 _ _ _ _)))
theorem puTE(r:T×Int):Pu (dTE.enc r):=zf9 (q1c (puT _) (q1c (pu_v _) qcy))
structure Place where
 node:Int
 port:Int
deriving DecidableEq,Inhabited
abbrev II:=Int×Int
def Place.ofP:II->Place:=λ(a,b)=>⟨a,b⟩
def Place.toP(p:Place):II:=(p.node,p.port)
def eP:El Place:=.iso (.pair eI eI) Place.ofP Place.toP (λ_=>rfl) (λ_=>rfl)
structure Spot where
 p:Place
 d:Int
deriving DecidableEq,Inhabited
abbrev PI:=Place×Int
def Spot.ofP:PI->Spot:=λ(a,b)=>⟨a,b⟩
def Spot.toP(s:Spot):PI:=(s.p,s.d)
def eSp:El Spot:=.iso (.pair eP eI) Spot.ofP Spot.toP (λ_=>rfl) (λ_=>rfl)
structure Edge where
 fr:Place
 to:Place
 s:S
deriving DecidableEq,Inhabited
abbrev PPS:=Place×Place×S
def Edge.ofP:PPS->Edge:=λ(a,b,c)=>⟨a,b,c⟩
def Edge.toP(x:Edge):PPS:=(x.fr,x.to,x.s)
def eE:El Edge:=.iso (.pair eP (.pair eP eS)) Edge.ofP Edge.toP (λ_=>rfl) (λ_=>rfl)
structure Path where
 fr:Place
 to:Place
 ss:List S
deriving DecidableEq,Inhabited
abbrev PPL:=Place×Place×List S
def Path.ofP:PPL->Path:=λ(a,b,c)=>⟨a,b,c⟩
def Path.toP(x:Path):PPL:=(x.fr,x.to,x.ss)
def eLS:El (List S):=zob eS
def ePa:El Path:=.iso (.pair eP (.pair eP eLS)) Path.ofP Path.toP (λ_=>rfl) (λ_=>rfl)
structure q00 where
 p:Place
 t:T
 n:Int
deriving DecidableEq,Inhabited
abbrev PTI:=Place×T×Int
def q00.ofP:PTI->q00:=λ(a,b,c)=>⟨a,b,c⟩
def q00.toP(x:q00):PTI:=(x.p,x.t,x.n)
def eC:El q00:=.iso (.pair eP (.pair eT eI)) q00.ofP q00.toP (λ_=>rfl) (λ_=>rfl)
structure Ask where
 p:Place
 q:Place
 t:T
 u:T
 cs:List q00
deriving DecidableEq,Inhabited
abbrev zqm:=Place×Place×T×T×List q00
def Ask.ofP:zqm->Ask:=λ(a,b,c,d,e)=>⟨a,b,c,d,e⟩
def Ask.toP(x:Ask):zqm:=(x.p,x.q,x.t,x.u,x.cs)
def eLC:El (List q00):=zob eC
abbrev dP:Dv Place:=.agg eP
abbrev dPa:Dv Path:=.agg ePa
abbrev dC:Dv q00:=.agg eC
abbrev dLP:Dv (List Path):=.list ePa
abbrev dLSp:Dv (List Spot):=.list eSp
abbrev dLC:Dv (List q00):=.list eC
abbrev dLS:Dv (List S):=.list eS
abbrev aPP:DA (Place×Place):=.cons dP (.one dP)
abbrev zdx:DA (Path×Path):=.cons dPa (.one dPa)
abbrev eKy:El (Place×T):=.pair eP eT
abbrev Ky:Type:=Place×T
abbrev MK:Type:=MpE Ky Int
abbrev dMP:Dv (List (Place×Int)):=.map true false eP eI
structure Ldg where
 l:List Path
 dep:List (Place×Int)
 c:List q00
abbrev LdK:Type:=List Path×List (Place×Int)×(List MK×Nat)
def layL(k:LdK):List PO:=[.cells [.k (.bool true),(Dv.list ePa).enc k.1,dMP.enc k.2.1,.mp 1] 89,.map eKy.sz eI.sz true false (.fn ((El.pair eKy (El.pair eI (eInt .i64))).els k.2.2.1)) k.2.2.1.length k.2.2.2]
def keyL(c:q00):List Int:=[c.p.node,c.p.port,c.t.e,c.t.d,c.t.l0,c.t.l1,c.t.l2,c.t.l3]
def relL(k:LdK)(g:Ldg):Prop:=k.1=g.l/\k.2.1=g.dep/\Bn k.2.2.1 k.2.2.2/\Kd k.2.2.1/\(∀e∈k.2.2.1,e.2.1≠0/\-1099511627776<=e.2.1/\e.2.1<=1099511627776)/\k.2.2.1.length<=4096/\(g.c.Pairwise λa b=>lexC (keyL a) (keyL b)<0)/\∀y:q00,y∈g.c↔∃e∈k.2.2.1,y=⟨e.1.1,e.1.2,e.2.1⟩
instance envN:Env where
 E _:=True
 mono _ _ _ _:=trivial
 Ab:=Ldg
 rep g:=qbs layL relL g
 rep_cl _ _ _ _ _ _ _ h1 h2 h:=z1y h1 h2 h
end Go.Proofs.YthnojkbkojpadaaGreat

namespace Go.Proofs.YthnojkbkojpadaaGreat
noncomputable section
open Go.RowKit Go.Sx
def tab0:PTab Tryz.prog:=PTab.nil
def q2y(a:S):Dv.T q0l:=
 bif !(decide (a.f<(0:Int))||decide (a.f>(4:Int)))&&!(decide (a.n<(0:Int))||decide (a.n>(4:Int)))&&!(decide (a.k<(0:Int))||(decide (a.k>a.f)||decide (IntKind.i64.wrap (a.k+a.n)>(4:Int))))&&!(!(decide (a.a>=(0:Int))&&decide (a.a<=(1048576:Int)))||a.k==(0:Int)&&a.a !=(0:Int))then bif !(decide (a.p0>=(0:Int))&&decide (a.p0<=(1048576:Int)))||decide ((0:Int)>=a.n)&&a.p0 !=(0:Int)then false else bif !(decide (a.p1>=(0:Int))&&decide (a.p1<=(1048576:Int)))||decide ((1:Int)>=a.n)&&a.p1 !=(0:Int)then false else bif !(decide (a.p2>=(0:Int))&&decide (a.p2<=(1048576:Int)))||decide ((2:Int)>=a.n)&&a.p2 !=(0:Int)then false else bif !(decide (a.p3>=(0:Int))&&decide (a.p3<=(1048576:Int)))||decide ((3:Int)>=a.n)&&a.p3 !=(0:Int)then false else true
 else false
theorem zt4:q09 Tryz.prog 101 aS q0l (λg=>q2y g) (λ_=>[]):=q0g (Γ:=(PTab.gamz tab0 [] [(68,0,5)])) (Λ:=noΛ) (PTab.okz tab0 [] [(68,0,5)]) q0f 100 default (λg=>by kernel_rfl) (λg=>by kernel_rfl)
def q1f(a:S):Dv.T dI:=
 bif decide (a.f<(0:Int))||(decide (a.f>(4:Int))||(decide (a.n<(0:Int))||(decide (a.n>(4:Int))||(decide (a.k<(0:Int))||(decide (a.k>a.f)||(decide (IntKind.i64.wrap (a.k+a.n)>(4:Int))||(decide (a.a<(0:Int))||(decide (a.a>(1048576:Int))||a.k==(0:Int)&&a.a !=(0:Int)))))))))then(20:Int)
 else bif decide (a.p0<(0:Int))||(decide (a.p0>(1048576:Int))||decide ((0:Int)>=a.n)&&a.p0 !=(0:Int))then(20:Int)else bif decide (a.p1<(0:Int))||(decide (a.p1>(1048576:Int))||decide ((1:Int)>=a.n)&&a.p1 !=(0:Int))then(20:Int)else bif decide (a.p2<(0:Int))||(decide (a.p2>(1048576:Int))||decide ((2:Int)>=a.n)&&a.p2 !=(0:Int))then(20:Int)else bif decide (a.p3<(0:Int))||(decide (a.p3>(1048576:Int))||decide ((3:Int)>=a.n)&&a.p3 !=(0:Int))then(20:Int)else(0:Int)
theorem z09:q09 Tryz.prog 110 aS dI (λg=>q1f g) (λ_=>[]):=q0g (Γ:=(PTab.gamz tab0 [] [(68,0,5)])) (Λ:=noΛ) (PTab.okz tab0 [] [(68,0,5)]) q0f 100 default (λg=>by kernel_rfl) (λg=>by kernel_rfl)
def q1e(t:T):Dv.T dI:=
 bif decide (t.e<(0:Int))||(decide (t.e>(1073741824:Int))||(decide (t.d<(0:Int))||decide (t.d>(4:Int))))then(10:Int)
 else bif decide (t.l0<(0:Int))||(decide (t.l0>(1048576:Int))||decide ((0:Int)>=t.d)&&t.l0 !=(0:Int))then(10:Int)else bif decide (t.l1<(0:Int))||(decide (t.l1>(1048576:Int))||decide ((1:Int)>=t.d)&&t.l1 !=(0:Int))then(10:Int)else bif decide (t.l2<(0:Int))||(decide (t.l2>(1048576:Int))||decide ((2:Int)>=t.d)&&t.l2 !=(0:Int))then(10:Int)else bif decide (t.l3<(0:Int))||(decide (t.l3>(1048576:Int))||decide ((3:Int)>=t.d)&&t.l3 !=(0:Int))then(10:Int)else(0:Int)
theorem qz2:q09 Tryz.prog 60 aT dI (λg=>q1e g) (λ_=>[]):=q0g (Γ:=(PTab.gamz tab0 [] [(68,0,5)])) (Λ:=noΛ) (PTab.okz tab0 [] [(68,0,5)]) q0f 100 default (λg=>by kernel_rfl) (λg=>by kernel_rfl)
def q1t(t:T):Dv.T dI:=
 bif decide (t.e<(0:Int))||(decide (t.e>(1073741824:Int))||(decide (t.d<(0:Int))||decide (t.d>(4:Int))))then(10:Int)
 else bif decide (t.l0<(0:Int))||(decide (t.l0>(1048576:Int))||decide ((0:Int)>=t.d)&&t.l0 !=(0:Int))then(10:Int)else bif decide (t.l1<(0:Int))||(decide (t.l1>(1048576:Int))||decide ((1:Int)>=t.d)&&t.l1 !=(0:Int))then(10:Int)else bif decide (t.l2<(0:Int))||(decide (t.l2>(1048576:Int))||decide ((2:Int)>=t.d)&&t.l2 !=(0:Int))then(10:Int)else bif decide (t.l3<(0:Int))||(decide (t.l3>(1048576:Int))||decide ((3:Int)>=t.d)&&t.l3 !=(0:Int))then(10:Int)else(0:Int)
theorem qw9:q09 Tryz.prog 75 aT dI (λg=>q1t g) (λ_=>[]):=q0g (Γ:=(PTab.gamz tab0 [] [(68,0,5)])) (Λ:=noΛ) (PTab.okz tab0 [] [(68,0,5)]) q0f 100 default (λg=>by kernel_rfl) (λg=>by kernel_rfl)
def tab2:PTab Tryz.prog:=((((tab0).cons 101 (q1y aS q0l (λg=>q2y g) (λ_=>[])) (q0k zt4 puB)).cons 110 (q1y aS dI (λg=>q1f g) (λ_=>[])) (q0k z09 puI)).cons 60 (q1y aT dI (λg=>q1e g) (λ_=>[])) (q0k qz2 puI)).cons 75 (q1y aT dI (λg=>q1t g) (λ_=>[])) (q0k qw9 puI)
end
end Go.Proofs.YthnojkbkojpadaaGreat

namespace Go.Proofs.YthnojkbkojpadaaGreat
open Go.RowKit Go.Sx
theorem wr{x:Int}(h:-9223372036854775808<=x/\x<=9223372036854775807):IntKind.i64.wrap x=x:=by
 have:=IntKind.wrap_i64 x;omega
def S.Ok(s:S):Prop:=(0<=s.f/\s.f<=4/\0<=s.n/\s.n<=4/\0<=s.k/\s.k<=s.f/\s.k+s.n<=4)/\(0<=s.a/\s.a<=1048576/\(s.k=0->s.a=0))/\
  (0<=s.p0/\s.p0<=1048576/\(s.n<=0->s.p0=0))/\(0<=s.p1/\s.p1<=1048576/\(s.n<=1->s.p1=0))/\(0<=s.p2/\s.p2<=1048576/\(s.n<=2->s.p2=0))/\(0<=s.p3/\s.p3<=1048576/\(s.n<=3->s.p3=0))
theorem zpc{c b:Bool}:(bif c then false else b)=true↔c=false/\b=true:=by cases c<;>simp
theorem zpd{c b:Bool}:(bif c then b else false)=true↔c=true/\b=true:=by cases c<;>simp
theorem q68(s:S):q2y s=true↔s.Ok:=by
 unfold q2y S.Ok;simp only[zpc,zpd,Bool.and_eq_true,Bool.or_eq_false_iff,Bool.not_eq_true',Bool.not_eq_false',decide_eq_false_iff_not,decide_eq_true_eq,Bool.and_eq_false_iff,bne_eq_false_iff_eq,beq_eq_false_iff_ne,beq_iff_eq,IntKind.wrap_i64,and_true,ne_eq,true_and];omega
theorem zpe{c:Bool}{x:Int}:(bif c then(20:Int)else x)=0↔c=false/\x=0:=by cases c<;>simp
theorem zpf{c:Bool}{x:Int}:(bif c then(10:Int)else x)=0↔c=false/\x=0:=by cases c<;>simp
theorem qj0(s:S):q1f s=0↔s.Ok:=by
 unfold q1f S.Ok;simp only[zpe,Bool.and_eq_true,Bool.or_eq_false_iff,Bool.not_eq_true',Bool.not_eq_false',decide_eq_false_iff_not,decide_eq_true_eq,Bool.and_eq_false_iff,bne_eq_false_iff_eq,beq_eq_false_iff_ne,beq_iff_eq,IntKind.wrap_i64,and_true,ne_eq,true_and];omega
theorem z08(s:S):q1f s=0\/q1f s=20:=by
 unfold q1f
 repeat' (rw[Bool.cond_eq_ite];split)
 all_goals simp
theorem qo8(s:S):q1f s=bif q2y s then 0 else 20:=by
 cases h:q2y s with
 |true=>exact(qj0 s).2 ((q68 s).1 h)
 |false=>
  rcases z08 s with h1|h1
  .rw[(q68 s).2 ((qj0 s).1 h1)]at h;cases h
  .exact h1
theorem qwa(t:T):q1t t=q1e t:=rfl
def T.Ok(t:T):Prop:=(0<=t.e/\t.e<=1073741824/\0<=t.d/\t.d<=4)/\
  (0<=t.l0/\t.l0<=1048576/\(t.d<=0->t.l0=0))/\(0<=t.l1/\t.l1<=1048576/\(t.d<=1->t.l1=0))/\(0<=t.l2/\t.l2<=1048576/\(t.d<=2->t.l2=0))/\(0<=t.l3/\t.l3<=1048576/\(t.d<=3->t.l3=0))
theorem q6f(t:T):q1e t=0↔t.Ok:=by
 unfold q1e T.Ok;simp only[zpf,Bool.and_eq_true,Bool.or_eq_false_iff,decide_eq_false_iff_not,Bool.and_eq_false_iff,bne_eq_false_iff_eq,and_true];omega
end Go.Proofs.YthnojkbkojpadaaGreat

namespace Go.Proofs.YthnojkbkojpadaaGreat
noncomputable section
open Go.RowKit Go.Sx
def tab3:PTab Tryz.prog:=tab2
def vi(n:Int):SV:=.v (.int .i64 n)
def ki(n:Int):SV:=.k (.int .i64 n)
def encK(s:S)(k n:Nat):SV:=.agg [vi s.f,ki k,vi s.a,ki n,vi s.p0,vi s.p1,vi s.p2,vi s.p3]
def litS(s:S)(k n:Nat):S:=⟨s.f,k,s.a,n,s.p0,s.p1,s.p2,s.p3⟩
theorem qah{s:S}{k n:Nat}(h1:s.k=k)(h2:s.n=n):litS s k n=s:=by unfold litS;rw[<-h1,<-h2]
def vv1:SV->SV
 | .k x=>.v x
 |s=>s
theorem qyl{s:SV}{n:Nat}{ρ:Rh}{x:Value}:(vv1 s).fit n ρ x↔s.fit n ρ x:=by cases s<;>simp[vv1,SV.fit]
theorem qv8{n:Nat}{ρ:Rh}:∀{xs ys:List SV}{l:List Value},xs.map vv1=ys.map vv1->SV.fits n ρ xs l->SV.fits n ρ ys l
 | [],[],_,_,h=>h
 |x::xs,y::ys,l,he,h=>by
  obtain⟨a,r,rfl,ha,hr⟩:=q04 h;simp only[List.map_cons,List.cons.injEq]at he;exact⟨qyl.1 (he.1▸qyl.2 ha),qv8 he.2 hr⟩
 | [],_::_,_,he,_=>by simp at he
 |_::_,[],_,he,_=>by simp at he
theorem qms{s:S}{k n:Nat}(h1:s.k=k)(h2:s.n=n){m:Nat}{ρ:Rh}{x:Value}(h:(dS.enc s).fit m ρ x):(encK s k n).fit m ρ x:=by
 rw[<-qah h1 h2]at h;obtain⟨l,hx,hl⟩:=h;exact⟨l,hx,qv8 (xs:=eS.cells (litS s k n)) rfl hl⟩
theorem qpr{a b:S}{k n k' n':Nat}(h1:a.k=k)(h2:a.n=n)(h3:b.k=k')(h4:b.n=n'){m:Nat}{ρ:Rh}{x:List Value}(h:SV.fits m ρ (aSS.enc (a,b)) x):SV.fits m ρ [encK a k n,encK b k' n'] x:=by
 obtain⟨y,r,rfl,hy,hr⟩:=q04 h;obtain⟨z,r',rfl,hz,hr'⟩:=q04 hr;exact⟨qms h1 h2 hy,qms h3 h4 hz,hr'⟩
theorem qpq{a:S}{t:T}{k n:Nat}(h1:a.k=k)(h2:a.n=n){m:Nat}{ρ:Rh}{x:List Value}(h:SV.fits m ρ (aST.enc (a,t)) x):SV.fits m ρ [encK a k n,dT.enc t] x:=by
 obtain⟨y,r,rfl,hy,hr⟩:=q04 h;exact⟨qms h1 h2 hy,hr⟩
section
def els{α:Type}:Tr α->Tr α
 | .br _ _ b=>b
 |t=>t
def zT:T:=⟨0,0,0,0,0,0⟩
def S.p(s:S):List Int:=[s.p0,s.p1,s.p2,s.p3]
def T.l(t:T):List Int:=[t.l0,t.l1,t.l2,t.l3]
def mkT(e d:Int)(l:List Int):T:=⟨e,d,l.getD 0 0,l.getD 1 0,l.getD 2 0,l.getD 3 0⟩
abbrev w64(x:Int):Int:=IntKind.i64.wrap x
theorem four{k:Nat}(h:k<=4):k=0\/k=1\/k=2\/k=3\/k=4:=by omega
abbrev g3:Gam:=tab3.gamz [] []
def qaa(k n:Nat)(s:S)(t:T):List Int:=
 match k with
 |0=>s.p.take n
 |j+1=>(t.l.take j++[w64 (t.l.getD j 0+s.a)])++s.p.take n
def z6q(s:S)(t:T)(k n:Nat):Tr (T×Int):=
 .br (!q2y (litS s k n)) (.ret (zT,20)) (.br (q1e t !=0) (.ret (zT,q1e t)) (.br (t.d !=s.f) (.ret (zT,11)) (match k with
  |0=>.ret (mkT t.e (0+n:Nat) (qaa 0 n s t),0)
  |j+1=>.br (decide (w64 (t.l.getD j 0+s.a)>1048576)) (.ret (zT,12)) (.ret (mkT t.e (j+1+n:Nat) (qaa (j+1) n s t),0)))))
def qtw(s:S)(t:T)(k n:Nat):Tr (T×Int):=
 .br (q1f (litS s k n)!=0) (.ret (zT,q1f (litS s k n))) (.br (q1t t !=0) (.ret (zT,q1t t)) (.br (t.d !=s.f) (.ret (zT,11))
  (.br (q1t (mkT t.e (k+n:Nat) (qaa k n s t))!=0) (.ret (zT,12)) (.ret (mkT t.e (k+n:Nat) (qaa k n s t),0)))))
theorem qya(s:S)(t:T)(k n:Nat)(h1:k+n<=4):q21 Tryz.prog g3 noΛ 100 61 [encK s k n,dT.enc t] dTE=z6q s t k n:=by
 rcases four (show k<=4 by omega)with rfl|rfl|rfl|rfl|rfl<;>rcases four (show n<=4 by omega)with rfl|rfl|rfl|rfl|rfl<;>first
  |(exfalso;omega)
  |kernel_rfl
theorem qr3(s:S)(t:T)(k n:Nat)(h1:k+n<=4):q21 Tryz.prog g3 noΛ 100 67 [encK s k n,dT.enc t] dTE=qtw s t k n:=by
 rcases four (show k<=4 by omega)with rfl|rfl|rfl|rfl|rfl<;>rcases four (show n<=4 by omega)with rfl|rfl|rfl|rfl|rfl<;>first
  |(exfalso;omega)
  |kernel_rfl
theorem qng(s:S)(t:T):q21 Tryz.prog g3 noΛ 100 61 (aST.enc (s,t)) dTE=.br (!q2y s) (.ret (zT,20)) (els (q21 Tryz.prog g3 noΛ 100 61 (aST.enc (s,t)) dTE)):=by kernel_rfl
theorem qqe(s:S)(t:T):els (q21 Tryz.prog g3 noΛ 100 61 (aST.enc (s,t)) dTE)=.br (q1e t !=0) (.ret (zT,q1e t)) (els (els (q21 Tryz.prog g3 noΛ 100 61 (aST.enc (s,t)) dTE))):=by kernel_rfl
theorem z6p(s:S)(t:T):els (els (q21 Tryz.prog g3 noΛ 100 61 (aST.enc (s,t)) dTE))=.br (t.d !=s.f) (.ret (zT,11)) (els (els (els (q21 Tryz.prog g3 noΛ 100 61 (aST.enc (s,t)) dTE)))):=by kernel_rfl
theorem qfz(s:S)(t:T):q21 Tryz.prog g3 noΛ 100 67 (aST.enc (s,t)) dTE=.br (q1f s !=0) (.ret (zT,q1f s)) (els (q21 Tryz.prog g3 noΛ 100 67 (aST.enc (s,t)) dTE)):=by kernel_rfl
theorem qj1(s:S)(t:T):els (q21 Tryz.prog g3 noΛ 100 67 (aST.enc (s,t)) dTE)=.br (q1t t !=0) (.ret (zT,q1t t)) (els (els (q21 Tryz.prog g3 noΛ 100 67 (aST.enc (s,t)) dTE))):=by kernel_rfl
theorem qwh(s:S)(t:T):els (els (q21 Tryz.prog g3 noΛ 100 67 (aST.enc (s,t)) dTE))=.br (t.d !=s.f) (.ret (zT,11)) (els (els (els (q21 Tryz.prog g3 noΛ 100 67 (aST.enc (s,t)) dTE)))):=by kernel_rfl
end
section
theorem zy4{s:S}(h:s.Ok):∀x∈s.p,0<=x/\x<=1048576:=by
 unfold S.Ok at h;intro x hx;simp only[S.p,List.mem_cons,List.not_mem_nil,or_false]at hx;rcases hx with rfl|rfl|rfl|rfl<;>omega
theorem sizes{s:S}(h:s.Ok):s.k=(s.k.toNat:Int)/\s.n=(s.n.toNat:Int)/\s.k.toNat+s.n.toNat<=4:=by
 have:=h.1;omega
theorem zti(s:S):s.p.length=4:=rfl
theorem qlm(s:S):(q1f s !=0)=!q2y s:=by
 rw[qo8];cases q2y s<;>rfl
def qvo(k n:Nat)(s:S)(t:T):T×Int:=
 match k with
 |0=>(mkT t.e (n:Int) (s.p.take n),0)
 |j+1=>bif decide (t.l.getD j 0+s.a>1048576)then(zT,12)else(mkT t.e ((j+1+n:Nat):Int) ((t.l.take j++[t.l.getD j 0+s.a])++s.p.take n),0)
def q3l(s:S)(t:T):T×Int:=
 bif !q2y s then(zT,20)else bif q1e t !=0 then(zT,q1e t)else bif t.d !=s.f then(zT,11)else qvo s.k.toNat s.n.toNat s t
theorem zty{t:T}(h:t.Ok):∀x∈t.l,0<=x/\x<=1048576:=by
 unfold T.Ok at h;intro x hx;simp only[T.l,List.mem_cons,List.not_mem_nil,or_false]at hx;rcases hx with rfl|rfl|rfl|rfl<;>omega
theorem ztz{t:T}(h:t.Ok)(i:Nat):0<=t.l.getD i 0/\t.l.getD i 0<=1048576:=by
 by_cases hi:i<t.l.length
 .rw[List.getD_eq_getElem?_getD,List.getElem?_eq_getElem hi];exact zty h _ (List.getElem_mem hi)
 .rw[List.getD_eq_getElem?_getD,List.getElem?_eq_none (by omega)];simp
theorem zyc(t:T):t.l.length=4:=rfl
theorem okmt{e:Int}{d:Nat}{l:List Int}(hl:l.length=d)(hd:d<=4)(he:0<=e/\e<=1073741824):(mkT e d l).Ok↔∀x∈l,0<=x/\x<=1048576:=by
 subst hl
 match l,hd with
 | [],_=>simp[mkT,T.Ok];omega
 | [x0],_=>simp[mkT,T.Ok];omega
 | [x0,x1],_=>simp[mkT,T.Ok];omega
 | [x0,x1,x2],_=>simp[mkT,T.Ok];omega
 | [x0,x1,x2,x3],_=>simp[mkT,T.Ok];omega
theorem zxm(t:T):(q1e t !=0)=!decide (q1e t=0):=by
 cases h:decide (q1e t=0)<;>simp_all
theorem qho{s:S}{t:T}(hs:q2y s=true)(ht:q1e t=0)(he:t.d=s.f):q3l s t=qvo s.k.toNat s.n.toNat s t:=by
 unfold q3l;rw[hs,ht,he];simp
theorem zdu:q09 Tryz.prog 61 aST dTE (λg=>q3l g.1 g.2) (λ_=>[]):=by
 refine q3o (Γ:=g3) (Λ:=noΛ) (tab3.okz [] []) q0f 100 λg _ _=>?_;obtain⟨s,t⟩:=g;show∃args,(∀n ρ x,SV.fits n ρ (aST.enc (s,t)) x->SV.fits n ρ args x)/\(q21 Tryz.prog g3 noΛ 100 61 args dTE).Holds (·=q3l s t);cases hs:q2y s with
 |false=>
  refine⟨_,λ_ _ _ h=>h,?_⟩;rw[qng,hs];generalize els (q21 Tryz.prog g3 noΛ 100 61 (aST.enc (s,t)) dTE)=r;refine⟨λ_=>?_,λhc=>(by cases hc)⟩;show(zT,(20:Int))=q3l s t;unfold q3l;rw[hs];rfl
 |true=>
  by_cases ht:q1e t=0
  .by_cases he:t.d=s.f
   .have os:=(q68 s).1 hs;have ot:=(q6f t).1 ht;obtain⟨ks,ns,h4⟩:=sizes os;refine⟨[encK s s.k.toNat s.n.toNat,dT.enc t],λ_ _ _ h=>qpq ks ns h,?_⟩;rw[qya s t _ _ h4,qho hs ht he];unfold z6q;rw[qah ks ns,hs,ht,he];refine⟨λhc=>(by cases hc),λ_=>⟨λhc=>(by cases hc),λ_=>⟨λhc=>(by simp at hc),λ_=>?_⟩⟩⟩;have ga:=os.2.1;generalize s.k.toNat=k at h4 ⊢;cases k with
    |zero=>
     show(mkT t.e ((0+s.n.toNat:Nat):Int) (s.p.take s.n.toNat),(0:Int))=_;rw[Nat.zero_add];rfl
    |succ j=>
     have hl:=ztz ot j;have hw:w64 (t.l.getD j 0+s.a)=t.l.getD j 0+s.a:=wr (by omega);simp only[qvo,qaa,hw];exact⟨λh=>by rw[h];rfl,λh=>by rw[h];rfl⟩
   .refine⟨_,λ_ _ _ h=>h,?_⟩;rw[qng,hs];refine⟨λhc=>(by cases hc),λ_=>?_⟩;rw[qqe,ht];refine⟨λhc=>(by cases hc),λ_=>?_⟩;rw[z6p];generalize els (els (els (q21 Tryz.prog g3 noΛ 100 61 (aST.enc (s,t)) dTE)))=r;refine⟨λ_=>?_,λhc=>absurd (bne_eq_false_iff_eq.1 hc) he⟩;show(zT,(11:Int))=q3l s t;unfold q3l;rw[hs,ht,show(t.d !=s.f)=true by simpa using he];rfl
  .refine⟨_,λ_ _ _ h=>h,?_⟩;rw[qng,hs];refine⟨λhc=>(by cases hc),λ_=>?_⟩;rw[qqe];generalize els (els (q21 Tryz.prog g3 noΛ 100 61 (aST.enc (s,t)) dTE))=r;refine⟨λhc=>?_,λhc=>absurd (bne_eq_false_iff_eq.1 hc) ht⟩;show(zT,q1e t)=q3l s t;unfold q3l;rw[hs,hc];rfl
theorem z8m(t:T):(q1t t !=0)=(q1e t !=0):=rfl
theorem z0a:q09 Tryz.prog 67 aST dTE (λg=>q3l g.1 g.2) (λ_=>[]):=by
 refine q3o (Γ:=g3) (Λ:=noΛ) (tab3.okz [] []) q0f 100 λg _ _=>?_;obtain⟨s,t⟩:=g;show∃args,(∀n ρ x,SV.fits n ρ (aST.enc (s,t)) x->SV.fits n ρ args x)/\(q21 Tryz.prog g3 noΛ 100 67 args dTE).Holds (·=q3l s t);cases hs:q2y s with
 |false=>
  refine⟨_,λ_ _ _ h=>h,?_⟩;rw[qfz,qlm,hs,qo8,hs];generalize els (q21 Tryz.prog g3 noΛ 100 67 (aST.enc (s,t)) dTE)=r;refine⟨λ_=>?_,λhc=>(by cases hc)⟩;show(zT,(20:Int))=q3l s t;unfold q3l;rw[hs];rfl
 |true=>
  by_cases ht:q1e t=0
  .by_cases he:t.d=s.f
   .have os:=(q68 s).1 hs;have ot:=(q6f t).1 ht;obtain⟨ks,ns,h4⟩:=sizes os;refine⟨[encK s s.k.toNat s.n.toNat,dT.enc t],λ_ _ _ h=>qpq ks ns h,?_⟩;rw[qr3 s t _ _ h4,qho hs ht he];unfold qtw;rw[qah ks ns,qlm,hs,z8m,ht,he];refine⟨λhc=>(by cases hc),λ_=>⟨λhc=>(by cases hc),λ_=>⟨λhc=>(by simp at hc),λ_=>?_⟩⟩⟩;have ga:=os.2.1;have pm:=zy4 os;have lm:=zty ot;have te:=ot.1;generalize s.k.toNat=k at h4 ⊢;rw[z8m,zxm];cases k with
    |zero=>
     rw[Nat.zero_add];have hok:=okmt (e:=t.e) (d:=s.n.toNat) (l:=qaa 0 s.n.toNat s t) (by simp only[qaa,List.length_take,zti];omega) (by omega) (by omega);rw[(q6f _).2 (hok.2 λx hx=>pm x (List.mem_of_mem_take hx))];exact⟨λh=>(by simp at h),λ_=>rfl⟩
    |succ j=>
     have hl:=ztz ot j;have hw:w64 (t.l.getD j 0+s.a)=t.l.getD j 0+s.a:=wr (by omega);have hok:=okmt (e:=t.e) (d:=j+1+s.n.toNat) (l:=qaa (j+1) s.n.toNat s t) (by simp only[qaa,List.length_append,List.length_take,zti,zyc,List.length_cons,List.length_nil];omega) (by omega) (by omega);simp only[qaa,hw]at hok ⊢;simp only[qvo];by_cases hx:t.l.getD j 0+s.a>1048576
     .have hno:¬q1e (mkT t.e ((j+1+s.n.toNat:Nat):Int) ((t.l.take j++[t.l.getD j 0+s.a])++s.p.take s.n.toNat))=0:=λh=>by
       have:=hok.1 ((q6f _).1 h) _ (List.mem_append_left _ (List.mem_append_right _ (List.mem_singleton.2 rfl)));omega
      rw[decide_eq_false hno,decide_eq_true hx];exact⟨λ_=>rfl,λh=>(by cases h)⟩
     .rw[(q6f _).2 (hok.2 λx hx'=>by
       rcases List.mem_append.1 hx' with h|h
       .rcases List.mem_append.1 h with h|h
        .exact lm x (List.mem_of_mem_take h)
        .rw[List.mem_singleton.1 h];omega
       .exact pm x (List.mem_of_mem_take h)),decide_eq_false hx]
      exact⟨λh=>(by simp at h),λ_=>rfl⟩
   .refine⟨_,λ_ _ _ h=>h,?_⟩;rw[qfz,qlm,hs];refine⟨λhc=>(by cases hc),λ_=>?_⟩;rw[qj1,z8m,ht];refine⟨λhc=>(by cases hc),λ_=>?_⟩;rw[qwh];generalize els (els (els (q21 Tryz.prog g3 noΛ 100 67 (aST.enc (s,t)) dTE)))=r;refine⟨λ_=>?_,λhc=>absurd (bne_eq_false_iff_eq.1 hc) he⟩;show(zT,(11:Int))=q3l s t;unfold q3l;rw[hs,ht,show(t.d !=s.f)=true by simpa using he];rfl
  .refine⟨_,λ_ _ _ h=>h,?_⟩;rw[qfz,qlm,hs];refine⟨λhc=>(by cases hc),λ_=>?_⟩;rw[qj1,z8m];generalize els (els (q21 Tryz.prog g3 noΛ 100 67 (aST.enc (s,t)) dTE))=r;refine⟨λhc=>?_,λhc=>absurd (bne_eq_false_iff_eq.1 hc) ht⟩;show(zT,q1t t)=q3l s t;rw[qwa];unfold q3l;rw[hs,hc];rfl
def tab4:PTab Tryz.prog:=(tab3.cons 61 (q1y aST dTE (λg=>q3l g.1 g.2) (λ_=>[])) (q0k zdu puTE)).cons 67 (q1y aST dTE (λg=>q3l g.1 g.2) (λ_=>[])) (q0k z0a puTE)
end
end
end Go.Proofs.YthnojkbkojpadaaGreat

namespace Go.Proofs.YthnojkbkojpadaaGreat
open Go.RowKit Go.Sx
end Go.Proofs.YthnojkbkojpadaaGreat

namespace Go.Proofs.YthnojkbkojpadaaGreat
open Go.RowKit Go.Sx
def W1(n:Int):Prop:=(Lit.int .i64 n).wf=true
def W4(a:I4):Prop:=W1 a.1/\W1 a.2.1/\W1 a.2.2.1/\W1 a.2.2.2
def W6(a:I6):Prop:=W1 a.1/\W1 a.2.1/\W4 a.2.2
def W8(a:I8):Prop:=W1 a.1/\W1 a.2.1/\W1 a.2.2.1/\W1 a.2.2.2.1/\W4 a.2.2.2.2
def S.W(s:S):Prop:=W8 s.toP
def T.W(t:T):Prop:=W6 t.toP
def WII(a:II):Prop:=W1 a.1/\W1 a.2
def Place.W(p:Place):Prop:=WII p.toP
def WLS(l:List S):Prop:=∀s∈l,S.W s
def WPPL(a:PPL):Prop:=Place.W a.1/\Place.W a.2.1/\WLS a.2.2
def Path.W(p:Path):Prop:=WPPL p.toP
def WPTI(a:PTI):Prop:=Place.W a.1/\T.W a.2.1/\W1 a.2.2
def q00.W(p:q00):Prop:=WPTI p.toP
def WLC(l:List q00):Prop:=∀s∈l,q00.W s
def WAsk(a:zqm):Prop:=Place.W a.1/\Place.W a.2.1/\T.W a.2.2.1/\T.W a.2.2.2.1/\WLC a.2.2.2.2
def Ask.W(p:Ask):Prop:=WAsk p.toP
theorem rd2:Rd Tryz.prog 2 eI W1:=zf6 Tryz.underlying2
theorem rd3:Rd Tryz.prog 3 eI W1:=zf6 Tryz.underlying3
theorem rdP:Rd Tryz.prog 24 eP Place.W:=qo6 (Q:=WII) (q8i (ts:=[3,3]) Tryz.underlying24 rfl (by kernel_rfl) (q2x rd3 (qcx rd3))) _ _ _ _
theorem rd4:Rd Tryz.prog 40 e4 W4:=z9c (ts:=[2,2,2,2]) Tryz.underlying40 rfl (by kernel_rfl) (q2x rd2 (q2x rd2 (q2x rd2 (qcx rd2))))
theorem rdT:Rd Tryz.prog 47 eT T.W:=qo6 (Q:=W6) (q8i (ts:=[2,3,40]) Tryz.underlying47 rfl (by kernel_rfl) (q2x rd2 (q2x rd3 (qcx rd4)))) _ _ _ _
theorem rdS:Rd Tryz.prog 42 eS S.W:=qo6 (Q:=W8) (q8i (ts:=[3,3,2,3,40]) Tryz.underlying42 rfl (by kernel_rfl) (q2x rd3 (q2x rd3 (q2x rd2 (q2x rd3 (qcx rd4)))))) _ _ _ _
theorem rdLS:Rd Tryz.prog 39 eLS WLS:=qtv Tryz.underlying39 (by kernel_rfl) (by decide) rdS
theorem rdPa:Rd Tryz.prog 105 ePa Path.W:=qo6 (Q:=WPPL) (q8i (ts:=[24,24,39]) Tryz.underlying105 rfl (by kernel_rfl) (q2x rdP (q2x rdP (qcx rdLS)))) _ _ _ _
theorem rdC:Rd Tryz.prog 59 eC q00.W:=qo6 (Q:=WPTI) (q8i (ts:=[24,47,2]) Tryz.underlying59 rfl (by kernel_rfl) (q2x rdP (q2x rdT (qcx rd2)))) _ _ _ _
theorem rdLC:Rd Tryz.prog 48 eLC WLC:=qtv Tryz.underlying48 (by kernel_rfl) (by decide) rdC
theorem rdvU:RdV Tryz.prog 5 (dInt .u8) (λn=>(Lit.int .u8 n).wf=true):=zkp Tryz.underlying5
theorem zy0:RdV Tryz.prog 22 dLP (λl=>∀s∈l,Path.W s):=qo5 Tryz.underlying22 (by kernel_rfl) (by decide) rdPa
theorem Tryz.own:ownKnob Tryz.prog.godebug=none:=by kernel_rfl
theorem Tryz.laidOut:laidOutB Tryz.prog=true:=by kernel_rfl
end Go.Proofs.YthnojkbkojpadaaGreat

namespace Go.Proofs.YthnojkbkojpadaaGreat
noncomputable section
open Go.RowKit Go.Sx
def q08(a:Int)(b:Int):Dv.T dI:=
 bif a !=a then bif b !=b then(0:Int)else(-1:Int)
 else bif b !=b then(1:Int)else bif decide (a<b)then(-1:Int)else bif decide (a>b)then(1:Int)else(0:Int)
theorem zd4:q09 Tryz.prog 139 aII dI (λg=>q08 g.1 g.2) (λ_=>[]):=q0g (Γ:=(PTab.gamz tab4 [] [])) (Λ:=noΛ) (PTab.okz tab4 [] []) q0f 100 default (λg=>by kernel_rfl) (λg=>by kernel_rfl)
def q0w(a:Int)(b:Int):Dv.T dI:=
 bif a !=a then bif b !=b then(0:Int)else(-1:Int)
 else bif b !=b then(1:Int)else bif decide (a<b)then(-1:Int)else bif decide (a>b)then(1:Int)else(0:Int)
theorem zpg:q09 Tryz.prog 140 aII dI (λg=>q0w g.1 g.2) (λ_=>[]):=q0g (Γ:=(PTab.gamz tab4 [] [])) (Λ:=noΛ) (PTab.okz tab4 [] []) q0f 100 default (λg=>by kernel_rfl) (λg=>by kernel_rfl)
def tabK:PTab Tryz.prog:=((tab4).cons 139 (q1y aII dI (λg=>q08 g.1 g.2) (λ_=>[])) (q0k zd4 puI)).cons 140 (q1y aII dI (λg=>q0w g.1 g.2) (λ_=>[])) (q0k zpg puI)
def ze4(a:T)(b:T):Dv.T q0l:=
 bif q1e a !=(0:Int)||(q1e b !=(0:Int)||(a.d !=b.d||decide (a.e>b.e)))then false
 else bif decide (a.l0>b.l0)then false else bif decide (a.l1>b.l1)then false else bif decide (a.l2>b.l2)then false else bif decide (a.l3>b.l3)then false else true
theorem zim:q09 Tryz.prog 66 aTT q0l (λg=>ze4 g.1 g.2) (λ_=>[]):=q0g (Γ:=(PTab.gamz tabK [] [(68,4,5)])) (Λ:=noΛ) (PTab.okz tabK [] [(68,4,5)]) q0f 100 default (λg=>by kernel_rfl) (λg=>by kernel_rfl)
def qzk(a:T)(b:T):Dv.T q0l:=
 bif q1t a !=(0:Int)||(q1t b !=(0:Int)||(a.d !=b.d||decide (a.e>b.e)))then false
 else bif decide (a.l0>b.l0)then false else bif decide (a.l1>b.l1)then false else bif decide (a.l2>b.l2)then false else bif decide (a.l3>b.l3)then false else true
theorem z8k:q09 Tryz.prog 68 aTT q0l (λg=>qzk g.1 g.2) (λ_=>[]):=q0g (Γ:=(PTab.gamz tabK [] [(68,4,5)])) (Λ:=noΛ) (PTab.okz tabK [] [(68,4,5)]) q0f 100 default (λg=>by kernel_rfl) (λg=>by kernel_rfl)
def qfp(a:T)(b:T):Dv.T dI:=
 bif conj ([a.l0==b.l0]++([a.l1==b.l1]++([a.l2==b.l2]++([a.l3==b.l3]++[]))))then bif q08 a.e b.e !=(0:Int)then q08 a.e b.e else bif q0w a.d b.d !=(0:Int)then q0w a.d b.d else(0:Int)
 else bif (bif (bif (bif (bif q08 a.e b.e !=(0:Int)then q08 a.e b.e else bif q0w a.d b.d !=(0:Int)then q0w a.d b.d else(0:Int))!=(0:Int)then bif q08 a.e b.e !=(0:Int)then q08 a.e b.e else bif q0w a.d b.d !=(0:Int)then q0w a.d b.d else(0:Int)else bif q08 a.l0 b.l0 !=(0:Int)then q08 a.l0 b.l0 else(0:Int))!=(0:Int)then bif (bif q08 a.e b.e !=(0:Int)then q08 a.e b.e else bif q0w a.d b.d !=(0:Int)then q0w a.d b.d else(0:Int))!=(0:Int)then bif q08 a.e b.e !=(0:Int)then q08 a.e b.e else bif q0w a.d b.d !=(0:Int)then q0w a.d b.d else(0:Int)else bif q08 a.l0 b.l0 !=(0:Int)then q08 a.l0 b.l0 else(0:Int)else bif q08 a.l1 b.l1 !=(0:Int)then q08 a.l1 b.l1 else(0:Int))!=(0:Int)then bif (bif (bif q08 a.e b.e !=(0:Int)then q08 a.e b.e else bif q0w a.d b.d !=(0:Int)then q0w a.d b.d else(0:Int))!=(0:Int)then bif q08 a.e b.e !=(0:Int)then q08 a.e b.e else bif q0w a.d b.d !=(0:Int)then q0w a.d b.d else(0:Int)else bif q08 a.l0 b.l0 !=(0:Int)then q08 a.l0 b.l0 else(0:Int))!=(0:Int)then bif (bif q08 a.e b.e !=(0:Int)then q08 a.e b.e else bif q0w a.d b.d !=(0:Int)then q0w a.d b.d else(0:Int))!=(0:Int)then bif q08 a.e b.e !=(0:Int)then q08 a.e b.e else bif q0w a.d b.d !=(0:Int)then q0w a.d b.d else(0:Int)else bif q08 a.l0 b.l0 !=(0:Int)then q08 a.l0 b.l0 else(0:Int)else bif q08 a.l1 b.l1 !=(0:Int)then q08 a.l1 b.l1 else(0:Int)else bif q08 a.l2 b.l2 !=(0:Int)then q08 a.l2 b.l2 else(0:Int))!=(0:Int)then bif (bif (bif (bif q08 a.e b.e !=(0:Int)then q08 a.e b.e else bif q0w a.d b.d !=(0:Int)then q0w a.d b.d else(0:Int))!=(0:Int)then bif q08 a.e b.e !=(0:Int)then q08 a.e b.e else bif q0w a.d b.d !=(0:Int)then q0w a.d b.d else(0:Int)else bif q08 a.l0 b.l0 !=(0:Int)then q08 a.l0 b.l0 else(0:Int))!=(0:Int)then bif (bif q08 a.e b.e !=(0:Int)then q08 a.e b.e else bif q0w a.d b.d !=(0:Int)then q0w a.d b.d else(0:Int))!=(0:Int)then bif q08 a.e b.e !=(0:Int)then q08 a.e b.e else bif q0w a.d b.d !=(0:Int)then q0w a.d b.d else(0:Int)else bif q08 a.l0 b.l0 !=(0:Int)then q08 a.l0 b.l0 else(0:Int)else bif q08 a.l1 b.l1 !=(0:Int)then q08 a.l1 b.l1 else(0:Int))!=(0:Int)then bif (bif (bif q08 a.e b.e !=(0:Int)then q08 a.e b.e else bif q0w a.d b.d !=(0:Int)then q0w a.d b.d else(0:Int))!=(0:Int)then bif q08 a.e b.e !=(0:Int)then q08 a.e b.e else bif q0w a.d b.d !=(0:Int)then q0w a.d b.d else(0:Int)else bif q08 a.l0 b.l0 !=(0:Int)then q08 a.l0 b.l0 else(0:Int))!=(0:Int)then bif (bif q08 a.e b.e !=(0:Int)then q08 a.e b.e else bif q0w a.d b.d !=(0:Int)then q0w a.d b.d else(0:Int))!=(0:Int)then bif q08 a.e b.e !=(0:Int)then q08 a.e b.e else bif q0w a.d b.d !=(0:Int)then q0w a.d b.d else(0:Int)else bif q08 a.l0 b.l0 !=(0:Int)then q08 a.l0 b.l0 else(0:Int)else bif q08 a.l1 b.l1 !=(0:Int)then q08 a.l1 b.l1 else(0:Int)else bif q08 a.l2 b.l2 !=(0:Int)then q08 a.l2 b.l2 else(0:Int)else bif q08 a.l3 b.l3 !=(0:Int)then q08 a.l3 b.l3 else(0:Int)
theorem zj6:q09 Tryz.prog 105 aTT dI (λg=>qfp g.1 g.2) (λ_=>[]):=q0g (Γ:=(PTab.gamz tabK [] [(68,4,5)])) (Λ:=noΛ) (PTab.okz tabK [] [(68,4,5)]) q0f 100 default (λg=>by kernel_rfl) (λg=>by kernel_rfl)
def qzl(a:T)(b:T):Dv.T dI:=
 bif decide (a.e<b.e)then(-1:Int)
 else bif decide (a.e>b.e)then(1:Int)else bif decide (a.d<b.d)then(-1:Int)else bif decide (a.d>b.d)then(1:Int)else bif (bif decide (a.l0<b.l0)then(-1:Int)else bif decide (a.l0>b.l0)then(1:Int)else(0:Int))!=(0:Int)then bif decide (a.l0<b.l0)then(-1:Int)else bif decide (a.l0>b.l0)then(1:Int)else(0:Int)else bif (bif decide (a.l1<b.l1)then(-1:Int)else bif decide (a.l1>b.l1)then(1:Int)else(0:Int))!=(0:Int)then bif decide (a.l1<b.l1)then(-1:Int)else bif decide (a.l1>b.l1)then(1:Int)else(0:Int)else bif (bif decide (a.l2<b.l2)then(-1:Int)else bif decide (a.l2>b.l2)then(1:Int)else(0:Int))!=(0:Int)then bif decide (a.l2<b.l2)then(-1:Int)else bif decide (a.l2>b.l2)then(1:Int)else(0:Int)else bif (bif decide (a.l3<b.l3)then(-1:Int)else bif decide (a.l3>b.l3)then(1:Int)else(0:Int))!=(0:Int)then bif decide (a.l3<b.l3)then(-1:Int)else bif decide (a.l3>b.l3)then(1:Int)else(0:Int)else(0:Int)
theorem z8l:q09 Tryz.prog 149 aTT dI (λg=>qzl g.1 g.2) (λ_=>[]):=q0g (Γ:=(PTab.gamz tabK [] [(68,4,5)])) (Λ:=noΛ) (PTab.okz tabK [] [(68,4,5)]) q0f 100 default (λg=>by kernel_rfl) (λg=>by kernel_rfl)
def tabL:PTab Tryz.prog:=((((tabK).cons 66 (q1y aTT q0l (λg=>ze4 g.1 g.2) (λ_=>[])) (q0k zim puB)).cons 68 (q1y aTT q0l (λg=>qzk g.1 g.2) (λ_=>[])) (q0k z8k puB)).cons 105 (q1y aTT dI (λg=>qfp g.1 g.2) (λ_=>[])) (q0k zj6 puI)).cons 149 (q1y aTT dI (λg=>qzl g.1 g.2) (λ_=>[])) (q0k z8l puI)
end
end Go.Proofs.YthnojkbkojpadaaGreat

namespace Go.Proofs.YthnojkbkojpadaaGreat
open Go.RowKit Go.Sx Go.Lp
def keyT(a:T):List Int:=[a.e,a.d,a.l0,a.l1,a.l2,a.l3]
theorem zb0(a b:T)(h:keyT a=keyT b):a=b:=by
 obtain⟨f,k,p0,p1,p2,p3⟩:=a;obtain⟨f',k',p0',p1',p2',p3'⟩:=b;simp only[keyT,List.cons.injEq,and_true]at h;obtain⟨rfl,rfl,rfl,rfl,rfl,rfl⟩:=h;rfl
theorem cmp3(x y:Int):(x<y/\q08 x y=-1)\/(y<x/\q08 x y=1)\/(x=y/\q08 x y=0):=by
 unfold q08;by_cases h:x<y
 .left;simp[h]
 .by_cases h2:y<x
  .right;left;simp[h,h2]
  .right;right;refine⟨by omega,?_⟩;simp[h,h2]
theorem qq7(x y:Int):q0w x y=q08 x y:=rfl
theorem or_self{x:Int}:(bif x !=0 then x else 0)=x:=by
 by_cases h:x=0
 .subst h;rfl
 .have:(x !=0)=true:=by simpa using h
  rw[this];rfl
theorem qtf(a b:T):qfp a b=lexC (keyT a) (keyT b):=by
 unfold qfp keyT;simp only[qq7,lexC,or_self,conj,List.append_nil,List.cons_append,List.nil_append];rcases cmp3 a.e b.e with ⟨h,e⟩|⟨h,e⟩|⟨h,e⟩<;>simp only[e]
 .simp[h]
 .have:¬a.e<b.e:=by omega
  simp[h,this]
 rw[if_neg (by omega),if_neg (by omega)];rcases cmp3 a.d b.d with ⟨h,e⟩|⟨h,e⟩|⟨h,e⟩<;>simp only[e]
 .simp[h]
 .have:¬a.d<b.d:=by omega
  simp[h,this]
 rw[if_neg (by omega),if_neg (by omega)];rcases cmp3 a.l0 b.l0 with ⟨h,e⟩|⟨h,e⟩|⟨h,e⟩<;>simp only[e]
 .have h2:(a.l0==b.l0)=false:=beq_eq_false_iff_ne.2 (by omega);simp[h,h2]
 .have h2:¬a.l0<b.l0:=by omega
  have h3:(a.l0==b.l0)=false:=beq_eq_false_iff_ne.2 (by omega);simp[h,h2,h3]
 rw[if_neg (by omega),if_neg (by omega)];rcases cmp3 a.l1 b.l1 with ⟨h1,e⟩|⟨h1,e⟩|⟨h1,e⟩<;>simp only[e]
 .have h2:(a.l1==b.l1)=false:=beq_eq_false_iff_ne.2 (by omega);simp[h,h1,h2]
 .have h2:¬a.l1<b.l1:=by omega
  have h3:(a.l1==b.l1)=false:=beq_eq_false_iff_ne.2 (by omega);simp[h,h1,h2,h3]
 rw[if_neg (by omega),if_neg (by omega)];rcases cmp3 a.l2 b.l2 with ⟨h1,e⟩|⟨h1,e⟩|⟨h1,e⟩<;>simp only[e]
 .have h2:(a.l2==b.l2)=false:=beq_eq_false_iff_ne.2 (by omega);simp[h,h1,h2]
 .have h2:¬a.l2<b.l2:=by omega
  have h3:(a.l2==b.l2)=false:=beq_eq_false_iff_ne.2 (by omega);simp[h,h1,h2,h3]
 rw[if_neg (by omega),if_neg (by omega)];rcases cmp3 a.l3 b.l3 with ⟨h1,e⟩|⟨h1,e⟩|⟨h1,e⟩<;>simp only[e]
 .have h2:(a.l3==b.l3)=false:=beq_eq_false_iff_ne.2 (by omega);simp[h,h1,h2]
 .have h2:¬a.l3<b.l3:=by omega
  have h3:(a.l3==b.l3)=false:=beq_eq_false_iff_ne.2 (by omega);simp[h,h1,h2,h3]
 rw[if_neg (by omega),if_neg (by omega)];simp
theorem toT:TO λa b=>qfp a b:=qte keyT zb0 λa b=>by rw[qtf]
end Go.Proofs.YthnojkbkojpadaaGreat

namespace Go.Proofs.YthnojkbkojpadaaGreat
noncomputable section
open Go.RowKit Go.Sx
def q7b(a:S):Dv.T dI:=
 bif !q2y a then(20:Int)else(0:Int)
theorem zdf:q09 Tryz.prog 122 aS dI (λg=>q7b g) (λ_=>[]):=q0g (Γ:=(PTab.gamz tabL [] [(68,4,5)])) (Λ:=noΛ) (PTab.okz tabL [] [(68,4,5)]) q0f 100 default (λg=>by kernel_rfl) (λg=>by kernel_rfl)
def q3u(a:S):Dv.T dI:=
 bif !q2y a then(0:Int)else IntKind.i64.wrap (a.k+a.n)
theorem zo4:q09 Tryz.prog 123 aS dI (λg=>q3u g) (λ_=>[]):=q0g (Γ:=(PTab.gamz tabL [] [(68,4,5)])) (Λ:=noΛ) (PTab.okz tabL [] [(68,4,5)]) q0f 100 default (λg=>by kernel_rfl) (λg=>by kernel_rfl)
def q1u(a:S)(b:S):Dv.T dI:=
 bif (bif q0w a.f b.f !=(0:Int)then q0w a.f b.f else bif q0w a.k b.k !=(0:Int)then q0w a.k b.k else bif q08 a.a b.a !=(0:Int)then q08 a.a b.a else bif q0w a.n b.n !=(0:Int)then q0w a.n b.n else(0:Int))!=(0:Int)then bif q0w a.f b.f !=(0:Int)then q0w a.f b.f else bif q0w a.k b.k !=(0:Int)then q0w a.k b.k else bif q08 a.a b.a !=(0:Int)then q08 a.a b.a else bif q0w a.n b.n !=(0:Int)then q0w a.n b.n else(0:Int)
 else bif q08 a.p0 b.p0 !=(0:Int)then q08 a.p0 b.p0 else bif q08 a.p1 b.p1 !=(0:Int)then q08 a.p1 b.p1 else bif q08 a.p2 b.p2 !=(0:Int)then q08 a.p2 b.p2 else bif q08 a.p3 b.p3 !=(0:Int)then q08 a.p3 b.p3 else(0:Int)
theorem qko:q09 Tryz.prog 153 aSS dI (λg=>q1u g.1 g.2) (λ_=>[]):=q0g (Γ:=(PTab.gamz tabL [] [(68,4,5)])) (Λ:=noΛ) (PTab.okz tabL [] [(68,4,5)]) q0f 100 default (λg=>by kernel_rfl) (λg=>by kernel_rfl)
def q1w(a:S)(b:S):Dv.T dI:=
 bif decide (a.f<b.f)then(-1:Int)
 else bif decide (a.f>b.f)then(1:Int)else bif decide (a.k<b.k)then(-1:Int)else bif decide (a.k>b.k)then(1:Int)else bif decide (a.a<b.a)then(-1:Int)else bif decide (a.a>b.a)then(1:Int)else bif decide (a.n<b.n)then(-1:Int)else bif decide (a.n>b.n)then(1:Int)else bif decide (a.p0<b.p0)then(-1:Int)else bif decide (a.p0>b.p0)then(1:Int)else bif decide (a.p1<b.p1)then(-1:Int)else bif decide (a.p1>b.p1)then(1:Int)else bif decide (a.p2<b.p2)then(-1:Int)else bif decide (a.p2>b.p2)then(1:Int)else bif decide (a.p3<b.p3)then(-1:Int)else bif decide (a.p3>b.p3)then(1:Int)else(0:Int)
theorem qr2:q09 Tryz.prog 200 aSS dI (λg=>q1w g.1 g.2) (λ_=>[]):=q0g (Γ:=(PTab.gamz tabL [] [(68,4,5)])) (Λ:=noΛ) (PTab.okz tabL [] [(68,4,5)]) q0f 100 default (λg=>by kernel_rfl) (λg=>by kernel_rfl)
def q60(a:S):Dv.T dI:=
 IntKind.i64.wrap (a.k+a.n)
theorem qzv:q09 Tryz.prog 100 aS dI (λg=>q60 g) (λ_=>[]):=q0g (Γ:=(PTab.gamz tabL [] [(68,4,5)])) (Λ:=noΛ) (PTab.okz tabL [] [(68,4,5)]) q0f 100 default (λg=>by kernel_rfl) (λg=>by kernel_rfl)
def qbb(d:Int):Dv.T dS:=
 S.mk d d (0:Int) (0:Int) (0:Int) (0:Int) (0:Int) (0:Int)
theorem z00:q09 Tryz.prog 99 aI dS (λg=>qbb g) (λ_=>[]):=q0g (Γ:=(PTab.gamz tabL [] [(68,4,5)])) (Λ:=noΛ) (PTab.okz tabL [] [(68,4,5)]) q0f 100 default (λg=>by kernel_rfl) (λg=>by kernel_rfl)
def qdb(d:Int):Dv.T dS:=
 S.mk d d (0:Int) (0:Int) (0:Int) (0:Int) (0:Int) (0:Int)
theorem zbj:q09 Tryz.prog 126 aI dS (λg=>qdb g) (λ_=>[]):=q0g (Γ:=(PTab.gamz tabL [] [(68,4,5)])) (Λ:=noΛ) (PTab.okz tabL [] [(68,4,5)]) q0f 100 default (λg=>by kernel_rfl) (λg=>by kernel_rfl)
def q6g:PTab Tryz.prog:=(((((((tabL).cons 122 (q1y aS dI (λg=>q7b g) (λ_=>[])) (q0k zdf puI)).cons 123 (q1y aS dI (λg=>q3u g) (λ_=>[])) (q0k zo4 puI)).cons 153 (q1y aSS dI (λg=>q1u g.1 g.2) (λ_=>[])) (q0k qko puI)).cons 200 (q1y aSS dI (λg=>q1w g.1 g.2) (λ_=>[])) (q0k qr2 puI)).cons 100 (q1y aS dI (λg=>q60 g) (λ_=>[])) (q0k qzv puI)).cons 99 (q1y aI dS (λg=>qbb g) (λ_=>[])) (q0k z00 puS)).cons 126 (q1y aI dS (λg=>qdb g) (λ_=>[])) (q0k zbj puS)
end
end Go.Proofs.YthnojkbkojpadaaGreat

namespace Go.Proofs.YthnojkbkojpadaaGreat
open Go.RowKit Go.Sx Go.Lp
def KS:Nat:=1000000
theorem q7a(a b:Place):conj ([a.node==b.node]++([a.port==b.port]++[]))=decide (a=b):=by
 obtain⟨f,k⟩:=a;obtain⟨f',k'⟩:=b;simp[conj];rw[Bool.eq_iff_iff];simp
theorem ap0{α:Type}(A:El α)(xs:List α):List.map (λ_=>A.get []) (List.range (min ((0:Nat)+xs.length) (0:Nat)))++A.lst ((0:Nat)+xs.length-(0:Nat)) (A.els xs)=xs:=by
 have h2:min (0+xs.length) 0=0:=by omega
 rw[h2,show 0+xs.length-0=xs.length by omega,A.lst_els];rfl
theorem rngP(i n:Int)(l:Nat)(h1:n=(l:Int))(h3:0<=i)(h:decide (i<n)=true):0<=i/\i<(l:Int):=by
 have:=of_decide_eq_true h;omega
end Go.Proofs.YthnojkbkojpadaaGreat

namespace Go.Proofs.YthnojkbkojpadaaGreat
noncomputable section
open Go.RowKit Go.Sx Go.Lp
def q5c:MTab Tryz.prog:=MTab.of tabL
open Go.RowKit Go.Sx
abbrev aCC:DA (q00×q00):=.cons dC (.one dC)
abbrev aLLC:DA (List q00×List q00):=.cons dLC (.one dLC)
abbrev aLC:DA (List q00):=.one dLC
def q9y(n:Int):Dv.T q0l:=
 decide (n>=(-1099511627776:Int))&&decide (n<=(1099511627776:Int))
def q4o(a:q00)(b:q00):Dv.T dI:=
 bif q0w a.p.node b.p.node !=(0:Int)then q0w a.p.node b.p.node
 else bif q0w a.p.port b.p.port !=(0:Int)then q0w a.p.port b.p.port else bif qfp a.t b.t !=(0:Int)then qfp a.t b.t else(0:Int)
theorem ztk:q09 Tryz.prog 117 aCC dI (λg=>q4o g.1 g.2) (λ_=>[]):=q0g (Γ:=(MTab.gamz q5c [] [])) (Λ:=noΛ) (MTab.okz q5c [] []) q0f 100 default (λg=>by kernel_rfl) (λg=>by kernel_rfl)
abbrev q7n:Type:=List q00×Unit×Int×Int×Int
def zge:LP 0 q7n:=.pair (.slot 0 0 dLC) (.pair (.fix 0 1 (.fn 71 [])) (.pair (.slot 0 7 dI) (.pair (.slot 0 8 dI) (.slot 0 4 dI))))
def qrz(xs:List q00)(_u:Unit)(n:Int)(i:Int)(r:Int):Ex×q7n:=
 bif decide (i<n)then bif q1e (xs.getD i.toNat eC.dflt).t !=(0:Int)then(Ex.ret,eC.ag xs,(),n,i,i)else(Ex.normal,eC.ag xs,(),n,IntKind.i64.wrap (i+(1:Int)),r)
 else(Ex.exit (0:Nat),eC.ag xs,(),n,i,r)
def qma(xs:List q00)(_u:Unit)(n:Int)(i:Int)(r:Int):Prop:=
 (decide (i<n)=true->((0:Int)<=i/\i<(↑xs.length:Int))/\((q1e (xs.getD i.toNat eC.dflt).t !=(0:Int))=true->eC.okL xs)/\((q1e (xs.getD i.toNat eC.dflt).t !=(0:Int))=false->eC.okL xs))/\(decide (i<n)=false->eC.okL xs)
theorem zmv:((q03 Tryz.prog 115).filter λc=>Nat.beq (lkey c) 2).length=1:=by kernel_rfl
abbrev q4t:Type:=List q00×Int
abbrev qgr:Type:=Unit×Int
def zbg(g:q7n):Int×q4t×qgr:=(g.2.2.2.1,(g.1,g.2.2.1),(g.2.1,g.2.2.2.2))
def z2u(d:Int×q4t×qgr):q7n:=(d.2.1.1,d.2.2.1,d.2.1.2,d.1,d.2.2.2)
abbrev qjq(g:q7n):Ex×q7n:=qrz g.1 g.2.1 g.2.2.1 g.2.2.2.1 g.2.2.2.2
abbrev zgb(g:q7n):Prop:=qma g.1 g.2.1 g.2.2.1 g.2.2.2.1 g.2.2.2.2
theorem zuf(g:q7n):(qjq g).1=.normal\/(qjq g).1∈([.ret,.exit 0]:List Ex):=by
 unfold qjq qrz
 repeat' (first|(left;rfl)|(right;simp only[cond_true,cond_false];simp;done)|(rw[Bool.cond_eq_ite];split))
abbrev zmx(Inv:q7n->List Prop)(m:q7n->Nat):LCon:=q2q [.ret,.exit 0] (loopBody Tryz.prog 115 2) zge [] 19 Inv qjq m
theorem zbf(Inv:q7n->List Prop)(m:q7n->Nat)(hs:∀g,allP (Inv g)->zgb g)(hg:Goes qjq m λg=>allP (Inv g)):∀b∈q03 Tryz.prog 115,lkey b=2->q06 Tryz.prog b (zmx Inv m).g:=q0s (Γ:=(MTab.gamz q5c [] [])) (Λ:=noΛ) (MTab.okz q5c [] []) q0f 100 115 2 19 zge [] Inv qjq zgb m default [.ret,.exit 0] zmv (λrd T B HL HB ds g=>by kernel_rfl) (λrd T B HL HB ds g=>by kernel_rfl) hs hg zuf
abbrev q7m:Type:=List q00×Unit×Int×Int×Int
def zga:LP 0 q7m:=.pair (.slot 0 0 dLC) (.pair (.fix 0 1 (.fn 74 [])) (.pair (.slot 0 7 dI) (.pair (.slot 0 8 dI) (.slot 0 4 dI))))
def qry(xs:List q00)(_u:Unit)(n:Int)(i:Int)(r:Int):Ex×q7m:=
 bif decide (i<n)then bif !(decide ((xs.getD i.toNat eC.dflt).n>=(-1099511627776:Int))&&decide ((xs.getD i.toNat eC.dflt).n<=(1099511627776:Int)))then(Ex.ret,eC.ag xs,(),n,i,i)else(Ex.normal,eC.ag xs,(),n,IntKind.i64.wrap (i+(1:Int)),r)
 else(Ex.exit (0:Nat),eC.ag xs,(),n,i,r)
def qm9(xs:List q00)(_u:Unit)(n:Int)(i:Int)(r:Int):Prop:=
 (decide (i<n)=true->((0:Int)<=i/\i<(↑xs.length:Int))/\((!(decide ((xs.getD i.toNat eC.dflt).n>=(-1099511627776:Int))&&decide ((xs.getD i.toNat eC.dflt).n<=(1099511627776:Int))))=true->eC.okL xs)/\((!(decide ((xs.getD i.toNat eC.dflt).n>=(-1099511627776:Int))&&decide ((xs.getD i.toNat eC.dflt).n<=(1099511627776:Int))))=false->eC.okL xs))/\(decide (i<n)=false->eC.okL xs)
theorem zmr:((q03 Tryz.prog 115).filter λc=>Nat.beq (lkey c) 2).length=1:=by kernel_rfl
abbrev q4s:Type:=List q00×Int
abbrev qgq:Type:=Unit×Int
def zbe(g:q7m):Int×q4s×qgq:=(g.2.2.2.1,(g.1,g.2.2.1),(g.2.1,g.2.2.2.2))
def z2s(d:Int×q4s×qgq):q7m:=(d.2.1.1,d.2.2.1,d.2.1.2,d.1,d.2.2.2)
abbrev qjp(g:q7m):Ex×q7m:=qry g.1 g.2.1 g.2.2.1 g.2.2.2.1 g.2.2.2.2
abbrev zg7(g:q7m):Prop:=qm9 g.1 g.2.1 g.2.2.1 g.2.2.2.1 g.2.2.2.2
theorem zu9(g:q7m):(qjp g).1=.normal\/(qjp g).1∈([.ret,.exit 0]:List Ex):=by
 unfold qjp qry
 repeat' (first|(left;rfl)|(right;simp only[cond_true,cond_false];simp;done)|(rw[Bool.cond_eq_ite];split))
abbrev zmt(Inv:q7m->List Prop)(m:q7m->Nat):LCon:=q2q [.ret,.exit 0] (loopBody Tryz.prog 115 2) zga [] 19 Inv qjp m
theorem zbd(Inv:q7m->List Prop)(m:q7m->Nat)(hs:∀g,allP (Inv g)->zg7 g)(hg:Goes qjp m λg=>allP (Inv g)):∀b∈q03 Tryz.prog 115,lkey b=2->q06 Tryz.prog b (zmt Inv m).g:=q0s (Γ:=(MTab.gamz q5c [] [])) (Λ:=noΛ) (MTab.okz q5c [] []) q0f 100 115 2 19 zga [] Inv qjp zg7 m default [.ret,.exit 0] zmr (λrd T B HL HB ds g=>by kernel_rfl) (λrd T B HL HB ds g=>by kernel_rfl) hs hg zu9
abbrev q7t:Type:=List q00×List q00×Int×Int×Bool
def zh8:LP 0 q7t:=.pair (.slot 0 0 dLC) (.pair (.slot 0 1 dLC) (.pair (.slot 0 12 dI) (.pair (.slot 0 13 dI) (.slot 0 4 q0l))))
def qsg(xs:List q00)(ys:List q00)(n:Int)(i:Int)(r:Bool):Ex×q7t:=
 bif decide (i<n)then bif !conj ([(xs.getD i.toNat eC.dflt).p.node==(ys.getD i.toNat eC.dflt).p.node]++([(xs.getD i.toNat eC.dflt).p.port==(ys.getD i.toNat eC.dflt).p.port]++[])++([(xs.getD i.toNat eC.dflt).t.e==(ys.getD i.toNat eC.dflt).t.e]++([(xs.getD i.toNat eC.dflt).t.d==(ys.getD i.toNat eC.dflt).t.d]++([(xs.getD i.toNat eC.dflt).t.l0==(ys.getD i.toNat eC.dflt).t.l0]++([(xs.getD i.toNat eC.dflt).t.l1==(ys.getD i.toNat eC.dflt).t.l1]++([(xs.getD i.toNat eC.dflt).t.l2==(ys.getD i.toNat eC.dflt).t.l2]++([(xs.getD i.toNat eC.dflt).t.l3==(ys.getD i.toNat eC.dflt).t.l3]++[])))++[]))++([(xs.getD i.toNat eC.dflt).n==(ys.getD i.toNat eC.dflt).n]++[])))then(Ex.ret,eC.ag xs,eC.ag ys,n,i,false)else(Ex.normal,eC.ag xs,eC.ag ys,n,IntKind.i64.wrap (i+(1:Int)),r)
 else(Ex.exit (0:Nat),eC.ag xs,eC.ag ys,n,i,r)
def qmq(xs:List q00)(ys:List q00)(n:Int)(i:Int)(r:Bool):Prop:=
 (decide (i<n)=true->((0:Int)<=i/\i<(↑xs.length:Int))/\((0:Int)<=i/\i<(↑ys.length:Int))/\((!conj ([(xs.getD i.toNat eC.dflt).p.node==(ys.getD i.toNat eC.dflt).p.node]++([(xs.getD i.toNat eC.dflt).p.port==(ys.getD i.toNat eC.dflt).p.port]++[])++([(xs.getD i.toNat eC.dflt).t.e==(ys.getD i.toNat eC.dflt).t.e]++([(xs.getD i.toNat eC.dflt).t.d==(ys.getD i.toNat eC.dflt).t.d]++([(xs.getD i.toNat eC.dflt).t.l0==(ys.getD i.toNat eC.dflt).t.l0]++([(xs.getD i.toNat eC.dflt).t.l1==(ys.getD i.toNat eC.dflt).t.l1]++([(xs.getD i.toNat eC.dflt).t.l2==(ys.getD i.toNat eC.dflt).t.l2]++([(xs.getD i.toNat eC.dflt).t.l3==(ys.getD i.toNat eC.dflt).t.l3]++[])))++[]))++([(xs.getD i.toNat eC.dflt).n==(ys.getD i.toNat eC.dflt).n]++[]))))=true->eC.okL xs/\eC.okL ys)/\((!conj ([(xs.getD i.toNat eC.dflt).p.node==(ys.getD i.toNat eC.dflt).p.node]++([(xs.getD i.toNat eC.dflt).p.port==(ys.getD i.toNat eC.dflt).p.port]++[])++([(xs.getD i.toNat eC.dflt).t.e==(ys.getD i.toNat eC.dflt).t.e]++([(xs.getD i.toNat eC.dflt).t.d==(ys.getD i.toNat eC.dflt).t.d]++([(xs.getD i.toNat eC.dflt).t.l0==(ys.getD i.toNat eC.dflt).t.l0]++([(xs.getD i.toNat eC.dflt).t.l1==(ys.getD i.toNat eC.dflt).t.l1]++([(xs.getD i.toNat eC.dflt).t.l2==(ys.getD i.toNat eC.dflt).t.l2]++([(xs.getD i.toNat eC.dflt).t.l3==(ys.getD i.toNat eC.dflt).t.l3]++[])))++[]))++([(xs.getD i.toNat eC.dflt).n==(ys.getD i.toNat eC.dflt).n]++[]))))=false->eC.okL xs/\eC.okL ys))/\(decide (i<n)=false->eC.okL xs/\eC.okL ys)
theorem zo0:((q03 Tryz.prog 31).filter λc=>Nat.beq (lkey c) 4).length=1:=by kernel_rfl
abbrev q4y:Type:=List q00×List q00×Int
abbrev qh4:Type:=Bool
def zc6(g:q7t):Int×q4y×qh4:=(g.2.2.2.1,(g.1,g.2.1,g.2.2.1),g.2.2.2.2)
def z4v(d:Int×q4y×qh4):q7t:=(d.2.1.1,d.2.1.2.1,d.2.1.2.2,d.1,d.2.2)
abbrev qk6(g:q7t):Ex×q7t:=qsg g.1 g.2.1 g.2.2.1 g.2.2.2.1 g.2.2.2.2
abbrev zh5(g:q7t):Prop:=qmq g.1 g.2.1 g.2.2.1 g.2.2.2.1 g.2.2.2.2
theorem zvh(g:q7t):(qk6 g).1=.normal\/(qk6 g).1∈([.ret,.exit 0]:List Ex):=by
 unfold qk6 qsg
 repeat' (first|(left;rfl)|(right;simp only[cond_true,cond_false];simp;done)|(rw[Bool.cond_eq_ite];split))
abbrev zo2(Inv:q7t->List Prop)(m:q7t->Nat):LCon:=q2q [.ret,.exit 0] (loopBody Tryz.prog 31 4) zh8 [] 26 Inv qk6 m
theorem zc5(Inv:q7t->List Prop)(m:q7t->Nat)(hs:∀g,allP (Inv g)->zh5 g)(hg:Goes qk6 m λg=>allP (Inv g)):∀b∈q03 Tryz.prog 31,lkey b=4->q06 Tryz.prog b (zo2 Inv m).g:=q0s (Γ:=(MTab.gamz q5c [] [])) (Λ:=noΛ) (MTab.okz q5c [] []) q0f 100 31 4 26 zh8 [] Inv qk6 zh5 m default [.ret,.exit 0] zo0 (λrd T B HL HB ds g=>by kernel_rfl) (λrd T B HL HB ds g=>by kernel_rfl) hs hg zvh
abbrev q9x:Type:=List q00×Int×Unit×Int
def zex:LP 0 q9x:=.pair (.slot 0 0 dLC) (.pair (.slot 0 4 dI) (.pair (.fix 0 2 (.k (.slice none 0 0))) (.slot 0 3 dI)))
def qzt(xs:List q00)(i:Int)(_u:Unit)(r:Int):Ex×q9x:=
 bif decide (i<(↑xs.length:Int))then bif q1t (xs.getD i.toNat eC.dflt).t !=(0:Int)then(Ex.ret,eC.ag xs,i,(),(10:Int))else(Ex.normal,eC.ag xs,IntKind.i64.wrap (i+(1:Int)),(),r)
 else(Ex.exit (0:Nat),eC.ag xs,i,(),r)
def qlk(xs:List q00)(i:Int)(_u:Unit)(r:Int):Prop:=
 (decide (i<(↑xs.length:Int))=true->((0:Int)<=i/\i<(↑xs.length:Int))/\((q1t (xs.getD i.toNat eC.dflt).t !=(0:Int))=true->eC.okL xs)/\((q1t (xs.getD i.toNat eC.dflt).t !=(0:Int))=false->eC.okL xs))/\(decide (i<(↑xs.length:Int))=false->eC.okL xs)
theorem zkc:((q03 Tryz.prog 30).filter λc=>Nat.beq (lkey c) 2).length=1:=by kernel_rfl
abbrev q5f:Type:=List q00
abbrev qiz:Type:=Unit×Int
def zrx(g:q9x):Int×q5f×qiz:=(g.2.1,g.1,(g.2.2.1,g.2.2.2))
def zrv(d:Int×q5f×qiz):q9x:=(d.2.1,d.1,d.2.2.1,d.2.2.2)
abbrev qiy(g:q9x):Ex×q9x:=qzt g.1 g.2.1 g.2.2.1 g.2.2.2
abbrev zew(g:q9x):Prop:=qlk g.1 g.2.1 g.2.2.1 g.2.2.2
theorem zry(g:q9x):(qiy g).1=.normal\/(qiy g).1∈([.ret,.exit 0]:List Ex):=by
 unfold qiy qzt
 repeat' (first|(left;rfl)|(right;simp only[cond_true,cond_false];simp;done)|(rw[Bool.cond_eq_ite];split))
abbrev zkg(Inv:q9x->List Prop)(m:q9x->Nat):LCon:=q2q [.ret,.exit 0] (loopBody Tryz.prog 30 2) zex [] 94 Inv qiy m
theorem z8x(Inv:q9x->List Prop)(m:q9x->Nat)(hs:∀g,allP (Inv g)->zew g)(hg:Goes qiy m λg=>allP (Inv g)):∀b∈q03 Tryz.prog 30,lkey b=2->q06 Tryz.prog b (zkg Inv m).g:=q0s (Γ:=(MTab.gamz q5c [] [])) (Λ:=noΛ) (MTab.okz q5c [] []) q0f 100 30 2 94 zex [] Inv qiy zew m default [.ret,.exit 0] zkc (λrd T B HL HB ds g=>by kernel_rfl) (λrd T B HL HB ds g=>by kernel_rfl) hs hg zry
abbrev q9w:Type:=List q00×Int×List q00
def zev:LP 0 q9w:=.pair (.slot 0 0 dLC) (.pair (.slot 0 4 dI) (.row 0 3 59 eC))
def qzs(xs:List q00)(i:Int)(o:List q00):Ex×q9w:=
 bif decide (i<(↑xs.length:Int))then bif (xs.getD i.toNat eC.dflt).n !=(0:Int)then(Ex.normal,eC.ag xs,IntKind.i64.wrap (i+(1:Int)),eC.lst (min (o.length+(1:Nat)) o.length) (eC.els o)++List.map (λx=>xs.getD i.toNat eC.dflt) (List.range (o.length+(1:Nat)-o.length)))else(Ex.normal,eC.ag xs,IntKind.i64.wrap (i+(1:Int)),eC.ag o)
 else(Ex.exit (0:Nat),eC.ag xs,i,eC.ag o)
def qlj(xs:List q00)(i:Int)(o:List q00):Prop:=
 (decide (i<(↑xs.length:Int))=true->((0:Int)<=i/\i<(↑xs.length:Int))/\(((xs.getD i.toNat eC.dflt).n !=(0:Int))=true->((0:Int)<=i/\i<(↑xs.length:Int))/\(o.length<=o.length/\True/\o.length+(1:Nat)<=maxLen/\(o.length+(1:Nat))*Tryz.prog.types[(59:Nat)].bytes<=(140737488355328:Nat))/\eC.okL xs/\o.length+(1:Nat)<=o.length+(1:Nat)/\(∀(e:Nat),e<min (o.length+(1:Nat)) o.length->True)/\∀(e:Nat),e<o.length+(1:Nat)-o.length->True)/\(((xs.getD i.toNat eC.dflt).n !=(0:Int))=false->eC.okL xs/\o.length<=o.length/\∀(e:Nat),e<o.length->True))/\(decide (i<(↑xs.length:Int))=false->eC.okL xs/\o.length<=o.length/\∀(e:Nat),e<o.length->True)
theorem zk7:((q03 Tryz.prog 78).filter λc=>Nat.beq (lkey c) 3).length=1:=by kernel_rfl
abbrev q5e:Type:=List q00
abbrev qix:Type:=List q00
def zrp(g:q9w):Int×q5e×qix:=(g.2.1,g.1,g.2.2)
def zro(d:Int×q5e×qix):q9w:=(d.2.1,d.1,d.2.2)
abbrev qiw(g:q9w):Ex×q9w:=qzs g.1 g.2.1 g.2.2
abbrev zeu(g:q9w):Prop:=qlj g.1 g.2.1 g.2.2
theorem zrq(g:q9w):(qiw g).1=.normal\/(qiw g).1∈([.exit 0]:List Ex):=by
 unfold qiw qzs
 repeat' (first|(left;rfl)|(right;simp only[cond_true,cond_false];simp;done)|(rw[Bool.cond_eq_ite];split))
abbrev zkb(Inv:q9w->List Prop)(m:q9w->Nat):LCon:=q2q [.exit 0] (loopBody Tryz.prog 78 3) zev [] 25 Inv qiw m
theorem z8w(Inv:q9w->List Prop)(m:q9w->Nat)(hs:∀g,allP (Inv g)->zeu g)(hg:Goes qiw m λg=>allP (Inv g)):∀b∈q03 Tryz.prog 78,lkey b=3->q06 Tryz.prog b (zkb Inv m).g:=q0s (Γ:=(MTab.gamz q5c [] [])) (Λ:=noΛ) (MTab.okz q5c [] []) q0f 100 78 3 25 zev [] Inv qiw zeu m default [.exit 0] zk7 (λrd T B HL HB ds g=>by kernel_rfl) (λrd T B HL HB ds g=>by kernel_rfl) hs hg zrq
theorem zyu(a b:q00):conj ([a.p.node==b.p.node]++([a.p.port==b.p.port]++[])++([a.t.e==b.t.e]++([a.t.d==b.t.d]++([a.t.l0==b.t.l0]++([a.t.l1==b.t.l1]++([a.t.l2==b.t.l2]++([a.t.l3==b.t.l3]++[])))++[]))++([a.n==b.n]++[])))=decide (a=b):=by
 obtain⟨⟨a1,a2⟩,⟨e,d,p0,p1,p2,p3⟩,n⟩:=a;obtain⟨⟨b1,b2⟩,⟨e',d',p0',p1',p2',p3'⟩,n'⟩:=b;simp[conj];rw[Bool.eq_iff_iff];simp[and_assoc]
theorem qt2(h:59<Tryz.prog.types.size):(Tryz.prog.types[(59:Nat)]'h).bytes=72:=by kernel_rfl
def qdg(c:q4y)(b:qh4)(i:Int)(v:q00):Ex×qh4:=bif !decide (v=(c.2.1.getD i.toNat eC.dflt))then(.ret,false)else(.normal,b)
def z4w(c:q4y)(b:qh4)(i:Int):Prop:=c.1.length=c.2.1.length
abbrev zo1(g:q7t):List Prop:=ixI (λc:q4y=>c.2.2) (λc:q4y=>c.1) z4w (zc6 g)
abbrev qxe(g:q7t):Nat:=ixM (λc:q4y=>c.2.2) (zc6 g)
theorem zvi:ixP qdg (λc:q4y=>c.1) z4w:=λ_ _ _ _ h _ _=>h
abbrev zh6(g:q7t):Ex×q7t:=qsg g.1 g.2.1 g.2.2.1 g.2.2.2.1 g.2.2.2.2
theorem zh7(d:Int×q4y×qh4)(hi:allP (ixI (λc:q4y=>c.2.2) (λc:q4y=>c.1) z4w d)):zh6 (z4v d)=((ixF 0 (λc:q4y=>c.2.2) (λc:q4y=>c.1) eC.dflt qdg d).1,z4v (ixF 0 (λc:q4y=>c.2.2) (λc:q4y=>c.1) eC.dflt qdg d).2):=by
 obtain⟨i,⟨xs,ys,n⟩,r⟩:=d;show qsg xs ys n i r=_;unfold qsg ixF qdg;simp only[El.ag_eq,zyu];cases decide (i<n)with
 |false=>rfl
 |true=>
  simp only[cond_true];generalize (!decide ((xs.getD i.toNat eC.dflt)=(ys.getD i.toNat eC.dflt)))=z;cases z<;>rfl
theorem zvg:∀b∈q03 Tryz.prog 31,lkey b=4->q06 Tryz.prog b (zo2 zo1 qxe).g:=by
 refine zc5 zo1 qxe (λg hi=>?_) (q0e (λ_=>rfl) (λ_=>rfl) zh7 zvi);obtain⟨xs,ys,n,i,r⟩:=g;obtain⟨h1,h2,h3,h4,h5⟩:=hi _ (List.mem_cons_self ..);have h1:n=(xs.length:Int):=h1;have h3:0<=i:=h3;have h5:xs.length=ys.length:=h5;show qmq xs ys n i r;unfold qmq;simp only[decide_eq_true_eq,decide_eq_false_iff_not];have k0:∀e:Nat,e<xs.length->eC.Ok (eC.els xs e):=λe _=>eC.ok_els xs e;have k1:∀e:Nat,e<ys.length->eC.Ok (eC.els ys e):=λe _=>eC.ok_els ys e;clear hi
 repeat' (first|exact k0|exact k1|apply And.intro|intro _)
 all_goals omega
theorem znz(c:q4y)(b:qh4)(k1:c.2.2=((c.1).length:Int))(k2:(c.1).length<=maxLen)(k3:z4w c b 0):q07 zh6 qxe (z4v (0,c,b))=((scan 0 (qdg c) 0 (c.1) b).1,z4v ((scan 0 (qdg c) 0 (c.1) b).2.1,c,(scan 0 (qdg c) 0 (c.1) b).2.2)):=q0h (φ:=zc6) (ψ:=z4v) (λ_=>rfl) (λ_=>rfl) zh7 zvi c b k1 k2 k3
def qi5(c:q4t)(b:qgr)(i:Int)(v:q00):Ex×qgr:=bif q1e v.t !=(0:Int)then(.ret,(),i)else(.normal,b.1,b.2)
def z2v(c:q4t)(b:qgr)(i:Int):Prop:=True
abbrev zmw(g:q7n):List Prop:=ixI (λc:q4t=>c.2) (λc:q4t=>c.1) z2v (zbg g)
abbrev qx2(g:q7n):Nat:=ixM (λc:q4t=>c.2) (zbg g)
theorem zug:ixP qi5 (λc:q4t=>c.1) z2v:=λ_ _ _ _ h _ _=>h
abbrev zgc(g:q7n):Ex×q7n:=qrz g.1 g.2.1 g.2.2.1 g.2.2.2.1 g.2.2.2.2
theorem zgd(d:Int×q4t×qgr)(hi:allP (ixI (λc:q4t=>c.2) (λc:q4t=>c.1) z2v d)):zgc (z2u d)=((ixF 0 (λc:q4t=>c.2) (λc:q4t=>c.1) eC.dflt qi5 d).1,z2u (ixF 0 (λc:q4t=>c.2) (λc:q4t=>c.1) eC.dflt qi5 d).2):=by
 obtain⟨i,⟨xs,n⟩,⟨⟨⟩,r⟩⟩:=d;show qrz xs () n i r=_;unfold qrz ixF qi5;simp only[El.ag_eq];cases decide (i<n)with
 |false=>rfl
 |true=>
  simp only[cond_true];generalize (q1e (xs.getD i.toNat eC.dflt).t !=(0:Int))=z;cases z<;>rfl
theorem zue:∀b∈q03 Tryz.prog 115,lkey b=2->q06 Tryz.prog b (zmx zmw qx2).g:=by
 refine zbf zmw qx2 (λg hi=>?_) (q0e (λ_=>rfl) (λ_=>rfl) zgd zug);obtain⟨xs,⟨⟩,n,i,r⟩:=g;obtain⟨h1,h2,h3,h4,h5⟩:=hi _ (List.mem_cons_self ..);have h1:n=(xs.length:Int):=h1;have h3:0<=i:=h3;have h5:True:=h5;show qma xs () n i r;unfold qma;simp only[El.okL_eq,decide_eq_true_eq,decide_eq_false_iff_not,Bool.and_eq_true];have k0:∀e:Nat,e<xs.length->eC.Ok (eC.els xs e):=λe _=>eC.ok_els xs e;clear hi
 repeat' (first|exact k0|apply And.intro|intro _)
 all_goals omega
theorem zmu(c:q4t)(b:qgr)(k1:c.2=((c.1).length:Int))(k2:(c.1).length<=maxLen)(k3:z2v c b 0):q07 zgc qx2 (z2u (0,c,b))=((scan 0 (qi5 c) 0 (c.1) b).1,z2u ((scan 0 (qi5 c) 0 (c.1) b).2.1,c,(scan 0 (qi5 c) 0 (c.1) b).2.2)):=q0h (φ:=zbg) (ψ:=z2u) (λ_=>rfl) (λ_=>rfl) zgd zug c b k1 k2 k3
def qi4(c:q4s)(b:qgq)(i:Int)(v:q00):Ex×qgq:=bif !(decide (v.n>=(-1099511627776:Int))&&decide (v.n<=(1099511627776:Int)))then(.ret,(),i)else(.normal,b.1,b.2)
def z2t(c:q4s)(b:qgq)(i:Int):Prop:=True
abbrev zms(g:q7m):List Prop:=ixI (λc:q4s=>c.2) (λc:q4s=>c.1) z2t (zbe g)
abbrev qx1(g:q7m):Nat:=ixM (λc:q4s=>c.2) (zbe g)
theorem zua:ixP qi4 (λc:q4s=>c.1) z2t:=λ_ _ _ _ h _ _=>h
abbrev zg8(g:q7m):Ex×q7m:=qry g.1 g.2.1 g.2.2.1 g.2.2.2.1 g.2.2.2.2
theorem zg9(d:Int×q4s×qgq)(hi:allP (ixI (λc:q4s=>c.2) (λc:q4s=>c.1) z2t d)):zg8 (z2s d)=((ixF 0 (λc:q4s=>c.2) (λc:q4s=>c.1) eC.dflt qi4 d).1,z2s (ixF 0 (λc:q4s=>c.2) (λc:q4s=>c.1) eC.dflt qi4 d).2):=by
 obtain⟨i,⟨xs,n⟩,⟨⟨⟩,r⟩⟩:=d;show qry xs () n i r=_;unfold qry ixF qi4;simp only[El.ag_eq];cases decide (i<n)with
 |false=>rfl
 |true=>
  simp only[cond_true];generalize (!(decide ((xs.getD i.toNat eC.dflt).n>=(-1099511627776:Int))&&decide ((xs.getD i.toNat eC.dflt).n<=(1099511627776:Int))))=z;cases z<;>rfl
theorem zu8:∀b∈q03 Tryz.prog 115,lkey b=2->q06 Tryz.prog b (zmt zms qx1).g:=by
 refine zbd zms qx1 (λg hi=>?_) (q0e (λ_=>rfl) (λ_=>rfl) zg9 zua);obtain⟨xs,⟨⟩,n,i,r⟩:=g;obtain⟨h1,h2,h3,h4,h5⟩:=hi _ (List.mem_cons_self ..);have h1:n=(xs.length:Int):=h1;have h3:0<=i:=h3;have h5:True:=h5;show qm9 xs () n i r;unfold qm9;simp only[El.okL_eq,decide_eq_true_eq,decide_eq_false_iff_not,Bool.and_eq_true];have k0:∀e:Nat,e<xs.length->eC.Ok (eC.els xs e):=λe _=>eC.ok_els xs e;clear hi
 repeat' (first|exact k0|apply And.intro|intro _)
 all_goals omega
theorem zmq(c:q4s)(b:qgq)(k1:c.2=((c.1).length:Int))(k2:(c.1).length<=maxLen)(k3:z2t c b 0):q07 zg8 qx1 (z2s (0,c,b))=((scan 0 (qi4 c) 0 (c.1) b).1,z2s ((scan 0 (qi4 c) 0 (c.1) b).2.1,c,(scan 0 (qi4 c) 0 (c.1) b).2.2)):=q0h (φ:=zbe) (ψ:=z2s) (λ_=>rfl) (λ_=>rfl) zg9 zua c b k1 k2 k3
def z8y(c:q5f)(b:qiz)(i:Int)(v:q00):Ex×qiz:=bif q1t v.t !=(0:Int)then(.ret,(),(10:Int))else(.normal,b.1,b.2)
def zke(c:q5f)(b:qiz)(i:Int):Prop:=True
abbrev zkf(g:q9x):List Prop:=ixI (λc:q5f=>(c.length:Int)) (λc:q5f=>c) zke (zrx g)
abbrev zkd(g:q9x):Nat:=ixM (λc:q5f=>(c.length:Int)) (zrx g)
theorem zxz:ixP z8y (λc:q5f=>c) zke:=λ_ _ _ _ h _ _=>h
abbrev zrz(g:q9x):Ex×q9x:=qzt g.1 g.2.1 g.2.2.1 g.2.2.2
theorem zs3(d:Int×q5f×qiz)(hi:allP (ixI (λc:q5f=>(c.length:Int)) (λc:q5f=>c) zke d)):zrz (zrv d)=((ixF 0 (λc:q5f=>(c.length:Int)) (λc:q5f=>c) eC.dflt z8y d).1,zrv (ixF 0 (λc:q5f=>(c.length:Int)) (λc:q5f=>c) eC.dflt z8y d).2):=by
 obtain⟨i,xs,⟨⟨⟩,r⟩⟩:=d;show qzt xs i () r=_;unfold qzt ixF z8y;simp only[El.ag_eq];cases decide (i<(xs.length:Int))with
 |false=>rfl
 |true=>
  simp only[cond_true];generalize (q1t (xs.getD i.toNat eC.dflt).t !=(0:Int))=z;cases z<;>rfl
theorem zru:∀b∈q03 Tryz.prog 30,lkey b=2->q06 Tryz.prog b (zkg zkf zkd).g:=by
 refine z8x zkf zkd (λg hi=>?_) (q0e (λ_=>rfl) (λ_=>rfl) zs3 zxz);obtain⟨xs,i,⟨⟩,r⟩:=g;obtain⟨h1,h2,h3,h4,h5⟩:=hi _ (List.mem_cons_self ..);have h1:(xs.length:Int)=(xs.length:Int):=h1;have h3:0<=i:=h3;have h5:True:=h5;show qlk xs i () r;unfold qlk;simp only[El.okL_eq,decide_eq_true_eq,decide_eq_false_iff_not,Bool.and_eq_true];have k0:∀e:Nat,e<xs.length->eC.Ok (eC.els xs e):=λe _=>eC.ok_els xs e;clear hi
 repeat' (first|exact k0|apply And.intro|intro _)
 all_goals omega
def qwc(c:q5e)(b:qix)(i:Int)(v:q00):Ex×qix:=(.normal,bif v.n !=(0:Int)then b++[v]else b)
def zk9(c:q5e)(b:qix)(i:Int):Prop:=(c).length<=KS/\(List.length b:Int)<=i
abbrev zka(g:q9w):List Prop:=ixI (λc:q5e=>(c.length:Int)) (λc:q5e=>c) zk9 (zrp g)
abbrev zk8(g:q9w):Nat:=ixM (λc:q5e=>(c.length:Int)) (zrp g)
theorem zxy:ixP qwc (λc:q5e=>c) zk9:=by
 intro c b i a h _ _;obtain⟨h1,h2⟩:=h;refine⟨h1,?_⟩;have h2:(List.length b:Int)<=(i:Int):=h2;show(List.length (qwc c b i a).2:Int)<=(i:Int)+1;unfold qwc;generalize (a.n !=(0:Int))=z0;cases z0<;>simp only[cond_true,cond_false,List.length_append,List.length_cons,List.length_nil]<;>omega
abbrev zrr(g:q9w):Ex×q9w:=qzs g.1 g.2.1 g.2.2
theorem zrt(d:Int×q5e×qix)(hi:allP (ixI (λc:q5e=>(c.length:Int)) (λc:q5e=>c) zk9 d)):zrr (zro d)=((ixF 0 (λc:q5e=>(c.length:Int)) (λc:q5e=>c) eC.dflt qwc d).1,zro (ixF 0 (λc:q5e=>(c.length:Int)) (λc:q5e=>c) eC.dflt qwc d).2):=by
 obtain⟨i,xs,o⟩:=d;show qzs xs i o=_;unfold qzs ixF qwc;simp only[El.ag_eq,qf4];cases decide (i<(xs.length:Int))with
 |false=>rfl
 |true=>
  simp only[cond_true];generalize ((xs.getD i.toNat eC.dflt).n !=(0:Int))=z0;cases z0<;>rfl
theorem zrn:∀b∈q03 Tryz.prog 78,lkey b=3->q06 Tryz.prog b (zkb zka zk8).g:=by
 refine z8w zka zk8 (λg hi=>?_) (q0e (λ_=>rfl) (λ_=>rfl) zrt zxy);obtain⟨xs,i,o⟩:=g;obtain⟨h1,h2,h3,h4,h5,h6⟩:=hi _ (List.mem_cons_self ..);have h1:(xs.length:Int)=(xs.length:Int):=h1;have h3:0<=i:=h3;have h5:xs.length<=1000000:=h5;have h6:(o.length:Int)<=i:=h6;show qlj xs i o;unfold qlj;simp only[qt2,El.okL_eq,El.ag_eq,decide_eq_true_eq,decide_eq_false_iff_not];have k0:∀e:Nat,e<xs.length->eC.Ok (eC.els xs e):=λe _=>eC.ok_els xs e;clear hi
 repeat' (first|exact k0|apply And.intro|intro _)
 all_goals (first|trivial|omega|(unfold maxLen;omega))
def zlv:LTab Tryz.prog:=((((LTab.nil.cons 115 2 (zmx zmw qx2) zue).cons 31 4 (zo2 zo1 qxe) zvg).cons 30 2 (zkg zkf zkd) zru).cons 78 3 (zkb zka zk8) zrn)
abbrev qp5:Lam:=zlv.lam
theorem qbu:∀f k L,qp5 f k=some L->∀b∈q03 Tryz.prog f,lkey b=k->q06 Tryz.prog b L.g:=zlv.ok
def zt9:LTab Tryz.prog:=(LTab.nil.cons 115 2 (zmt zms qx1) zu8)
abbrev zfz:Lam:=zt9.lam
theorem z2d:∀f k L,zfz f k=some L->∀b∈q03 Tryz.prog f,lkey b=k->q06 Tryz.prog b L.g:=zt9.ok
end
end Go.Proofs.YthnojkbkojpadaaGreat

namespace Go.Proofs.YthnojkbkojpadaaGreat
open Go.RowKit Go.Sx Go.Lp
end Go.Proofs.YthnojkbkojpadaaGreat

namespace Go.Proofs.YthnojkbkojpadaaGreat
noncomputable section
open Go.RowKit Go.Sx
abbrev MPk:Type:=List ((Place×T)×Int×Int)×Nat
def q1g(xs:List q00)(n:Int)(i:Int)(_u:Unit)(mp:MPk)(_v:Unit)(r:Int):Nat:=
 q2h (λe=>(xs.getD i.toNat eC.dflt).p.node==(mp.fst.getD e (eKy.ent eI).dflt).fst.fst.node&&((xs.getD i.toNat eC.dflt).p.port==(mp.fst.getD e (eKy.ent eI).dflt).fst.fst.port&&((xs.getD i.toNat eC.dflt).t.e==(mp.fst.getD e (eKy.ent eI).dflt).fst.snd.e&&((xs.getD i.toNat eC.dflt).t.d==(mp.fst.getD e (eKy.ent eI).dflt).fst.snd.d&&((xs.getD i.toNat eC.dflt).t.l0==(mp.fst.getD e (eKy.ent eI).dflt).fst.snd.l0&&((xs.getD i.toNat eC.dflt).t.l1==(mp.fst.getD e (eKy.ent eI).dflt).fst.snd.l1&&((xs.getD i.toNat eC.dflt).t.l2==(mp.fst.getD e (eKy.ent eI).dflt).fst.snd.l2&&(xs.getD i.toNat eC.dflt).t.l3==(mp.fst.getD e (eKy.ent eI).dflt).fst.snd.l3))))))) mp.fst.length (0:Nat)
def z1d(xs:List q00)(n:Int)(i:Int)(_u:Unit)(mp:MPk)(_v:Unit)(r:Int):Nat:=
 q2h (λe=>((xs.getD i.toNat eC.dflt).p.node==bif decide (e=(q1g xs n i _u mp _v r))then(xs.getD i.toNat eC.dflt).p.node else(mp.fst.getD e (eKy.ent eI).dflt).fst.fst.node)&&(((xs.getD i.toNat eC.dflt).p.port==bif decide (e=(q1g xs n i _u mp _v r))then(xs.getD i.toNat eC.dflt).p.port else(mp.fst.getD e (eKy.ent eI).dflt).fst.fst.port)&&(((xs.getD i.toNat eC.dflt).t.e==bif decide (e=(q1g xs n i _u mp _v r))then(xs.getD i.toNat eC.dflt).t.e else(mp.fst.getD e (eKy.ent eI).dflt).fst.snd.e)&&(((xs.getD i.toNat eC.dflt).t.d==bif decide (e=(q1g xs n i _u mp _v r))then(xs.getD i.toNat eC.dflt).t.d else(mp.fst.getD e (eKy.ent eI).dflt).fst.snd.d)&&(((xs.getD i.toNat eC.dflt).t.l0==bif decide (e=(q1g xs n i _u mp _v r))then(xs.getD i.toNat eC.dflt).t.l0 else(mp.fst.getD e (eKy.ent eI).dflt).fst.snd.l0)&&(((xs.getD i.toNat eC.dflt).t.l1==bif decide (e=(q1g xs n i _u mp _v r))then(xs.getD i.toNat eC.dflt).t.l1 else(mp.fst.getD e (eKy.ent eI).dflt).fst.snd.l1)&&(((xs.getD i.toNat eC.dflt).t.l2==bif decide (e=(q1g xs n i _u mp _v r))then(xs.getD i.toNat eC.dflt).t.l2 else(mp.fst.getD e (eKy.ent eI).dflt).fst.snd.l2)&&(xs.getD i.toNat eC.dflt).t.l3==bif decide (e=(q1g xs n i _u mp _v r))then(xs.getD i.toNat eC.dflt).t.l3 else(mp.fst.getD e (eKy.ent eI).dflt).fst.snd.l3))))))) (bif decide ((q1g xs n i _u mp _v r)<mp.fst.length)then mp.fst.length else mp.fst.length+(1:Nat)) (0:Nat)
abbrev nb_G:Type:=List q00×Int×Int×Unit×MPk×Unit×Int
def zt2:LP 1 nb_G:=.pair (.slot 1 11 dLC) (.pair (.slot 1 12 dI) (.pair (.slot 1 13 dI) (.pair (.fix 1 4 (.mp 0)) (.pair (.mapO 1 0 true false eKy eI) (.pair (.fix 1 2 (.k (.slice none 0 0))) (.slot 1 3 dI))))))
def nb_R(xs:List q00)(n:Int)(i:Int)(_u:Unit)(mp:MPk)(_v:Unit)(r:Int):Ex×nb_G:=
 bif decide (i<n)then bif !(decide ((xs.getD i.toNat eC.dflt).n>=(-1099511627776:Int))&&decide ((xs.getD i.toNat eC.dflt).n<=(1099511627776:Int)))then(Ex.ret,eC.ag xs,n,i,(),((eKy.ent eI).ag mp.fst,mp.snd),(),(150:Int))else(Ex.normal,eC.ag xs,n,IntKind.i64.wrap (i+(1:Int)),(),(((eKy.ent eI).lst (bif decide ((q1g xs n i _u mp _v r)<mp.fst.length)then mp.fst.length else mp.fst.length+(1:Nat)) ((eKy.ent eI).els mp.fst)).set (q1g xs n i _u mp _v r) (((xs.getD i.toNat eC.dflt).p,(xs.getD i.toNat eC.dflt).t),IntKind.i64.wrap ((bif decide ((q1g xs n i _u mp _v r)<mp.fst.length)then(mp.fst.getD (q1g xs n i _u mp _v r) (eKy.ent eI).dflt).snd.fst else(0:Int))+(xs.getD i.toNat eC.dflt).n),bif decide ((q1g xs n i _u mp _v r)<mp.fst.length)then(mp.fst.getD (q1g xs n i _u mp _v r) (eKy.ent eI).dflt).snd.snd else(↑mp.snd:Int)),bif decide ((q1g xs n i _u mp _v r)<mp.fst.length)then mp.snd else mp.snd+(1:Nat)),(),r)
 else(Ex.exit (0:Nat),eC.ag xs,n,i,(),((eKy.ent eI).ag mp.fst,mp.snd),(),r)
def qrc(xs:List q00)(n:Int)(i:Int)(_u:Unit)(mp:MPk)(_v:Unit)(r:Int):Prop:=
 (decide (i<n)=true->((0:Int)<=i/\i<(↑xs.length:Int))/\((!(decide ((xs.getD i.toNat eC.dflt).n>=(-1099511627776:Int))&&decide ((xs.getD i.toNat eC.dflt).n<=(1099511627776:Int))))=true->eC.okL xs/\∀(e:Nat),e<mp.fst.length->True)/\((!(decide ((xs.getD i.toNat eC.dflt).n>=(-1099511627776:Int))&&decide ((xs.getD i.toNat eC.dflt).n<=(1099511627776:Int))))=false->∀(cs:List Nat),(cs.isEmpty=true->(∀(e:Nat),e<mp.fst.length->(10:Nat)=(10:Nat))/\(∀(e:Nat),e<mp.fst.length->True)/\(∀(e:Nat),e<mp.fst.length->(10:Nat)=(10:Nat))/\(∀(e:Nat),e<mp.fst.length->True)/\((bif decide ((q1g xs n i _u mp _v r)<mp.fst.length)then(mp.fst.getD (q1g xs n i _u mp _v r) (eKy.ent eI).dflt).snd.snd else(↑mp.snd:Int))=bif decide ((q1g xs n i _u mp _v r)<mp.fst.length)then(mp.fst.getD (q1g xs n i _u mp _v r) (eKy.ent eI).dflt).snd.snd else(↑mp.snd:Int))/\eC.okL xs/\True/\(∀(e:Nat),(e<bif decide ((q1g xs n i _u mp _v r)<mp.fst.length)then mp.fst.length else mp.fst.length+(1:Nat))->True)/\∀(d:Ex×List q00×Int×Int×Unit×(List ((Place×T)×Int×Int)×Nat)×Unit×Int),(Ex.normal,eC.ag xs,n,IntKind.i64.wrap (i+(1:Int)),(),(((eKy.ent eI).lst (bif decide ((q1g xs n i _u mp _v r)<mp.fst.length)then mp.fst.length else mp.fst.length+(1:Nat)) ((eKy.ent eI).els mp.fst)).set (q1g xs n i _u mp _v r) (((xs.getD i.toNat eC.dflt).p,(xs.getD i.toNat eC.dflt).t),IntKind.i64.wrap ((bif decide ((q1g xs n i _u mp _v r)<mp.fst.length)then(mp.fst.getD (q1g xs n i _u mp _v r) (eKy.ent eI).dflt).snd.fst else(0:Int))+(xs.getD i.toNat eC.dflt).n),bif decide ((q1g xs n i _u mp _v r)<mp.fst.length)then(mp.fst.getD (q1g xs n i _u mp _v r) (eKy.ent eI).dflt).snd.snd else(↑mp.snd:Int)),bif decide ((q1g xs n i _u mp _v r)<mp.fst.length)then mp.snd else mp.snd+(1:Nat)),(),r)=(Ex.normal,eC.ag xs,n,IntKind.i64.wrap (i+(1:Int)),(),(((eKy.ent eI).lst (bif decide ((q1g xs n i _u mp _v r)<mp.fst.length)then mp.fst.length else mp.fst.length+(1:Nat)) ((eKy.ent eI).els mp.fst)).set (q1g xs n i _u mp _v r) (((xs.getD i.toNat eC.dflt).p,(xs.getD i.toNat eC.dflt).t),IntKind.i64.wrap ((bif decide ((q1g xs n i _u mp _v r)<mp.fst.length)then(mp.fst.getD (q1g xs n i _u mp _v r) (eKy.ent eI).dflt).snd.fst else(0:Int))+(xs.getD i.toNat eC.dflt).n),bif decide ((q1g xs n i _u mp _v r)<mp.fst.length)then(mp.fst.getD (q1g xs n i _u mp _v r) (eKy.ent eI).dflt).snd.snd else(↑mp.snd:Int)),bif decide ((q1g xs n i _u mp _v r)<mp.fst.length)then mp.snd else mp.snd+(1:Nat)),(),r))/\(cs.isEmpty=false->(∀(e:Nat),e<mp.fst.length->(10:Nat)=(10:Nat))/\(∀(e:Nat),e<mp.fst.length->True)/\(∀(e:Nat),(e<bif decide ((q1g xs n i _u mp _v r)<mp.fst.length)then mp.fst.length else mp.fst.length+(1:Nat))->(10:Nat)=(10:Nat))/\(∀(e:Nat),(e<bif decide ((q1g xs n i _u mp _v r)<mp.fst.length)then mp.fst.length else mp.fst.length+(1:Nat))->True)/\((bif decide ((q1g xs n i _u mp _v r)<mp.fst.length)then(mp.fst.getD (q1g xs n i _u mp _v r) (eKy.ent eI).dflt).snd.snd else(↑mp.snd:Int))=bif decide ((q1g xs n i _u mp _v r)<mp.fst.length)then(mp.fst.getD (q1g xs n i _u mp _v r) (eKy.ent eI).dflt).snd.snd else(↑mp.snd:Int))/\eC.okL xs/\True/\(∀(e:Nat),(e<bif decide ((q1g xs n i _u mp _v r)<mp.fst.length)then mp.fst.length else mp.fst.length+(1:Nat))->True)/\∀(d:Ex×List q00×Int×Int×Unit×(List ((Place×T)×Int×Int)×Nat)×Unit×Int),(Ex.normal,eC.ag xs,n,IntKind.i64.wrap (i+(1:Int)),(),(((eKy.ent eI).lst (bif decide ((q1g xs n i _u mp _v r)<mp.fst.length)then mp.fst.length else mp.fst.length+(1:Nat)) ((eKy.ent eI).els mp.fst)).set (q1g xs n i _u mp _v r) (((xs.getD i.toNat eC.dflt).p,(xs.getD i.toNat eC.dflt).t),IntKind.i64.wrap ((bif decide ((z1d xs n i _u mp _v r)<bif decide ((q1g xs n i _u mp _v r)<mp.fst.length)then mp.fst.length else mp.fst.length+(1:Nat))then bif decide ((z1d xs n i _u mp _v r)=(q1g xs n i _u mp _v r))then bif decide ((q1g xs n i _u mp _v r)<mp.fst.length)then(mp.fst.getD (q1g xs n i _u mp _v r) (eKy.ent eI).dflt).snd.fst else(0:Int)else(mp.fst.getD (z1d xs n i _u mp _v r) (eKy.ent eI).dflt).snd.fst else(0:Int))+(xs.getD i.toNat eC.dflt).n),bif decide ((q1g xs n i _u mp _v r)<mp.fst.length)then(mp.fst.getD (q1g xs n i _u mp _v r) (eKy.ent eI).dflt).snd.snd else(↑mp.snd:Int)),bif decide ((q1g xs n i _u mp _v r)<mp.fst.length)then mp.snd else mp.snd+(1:Nat)),(),r)=(Ex.normal,eC.ag xs,n,IntKind.i64.wrap (i+(1:Int)),(),(((eKy.ent eI).lst (bif decide ((q1g xs n i _u mp _v r)<mp.fst.length)then mp.fst.length else mp.fst.length+(1:Nat)) ((eKy.ent eI).els mp.fst)).set (q1g xs n i _u mp _v r) (((xs.getD i.toNat eC.dflt).p,(xs.getD i.toNat eC.dflt).t),IntKind.i64.wrap ((bif decide ((q1g xs n i _u mp _v r)<mp.fst.length)then(mp.fst.getD (q1g xs n i _u mp _v r) (eKy.ent eI).dflt).snd.fst else(0:Int))+(xs.getD i.toNat eC.dflt).n),bif decide ((q1g xs n i _u mp _v r)<mp.fst.length)then(mp.fst.getD (q1g xs n i _u mp _v r) (eKy.ent eI).dflt).snd.snd else(↑mp.snd:Int)),bif decide ((q1g xs n i _u mp _v r)<mp.fst.length)then mp.snd else mp.snd+(1:Nat)),(),r))))/\(decide (i<n)=false->eC.okL xs/\∀(e:Nat),e<mp.fst.length->True)
theorem zt0:((q03 Tryz.prog 29).filter λc=>Nat.beq (lkey c) 5).length=1:=by kernel_rfl
abbrev qd1:Type:=List q00×Int
abbrev qwo:Type:=Unit×MPk×Unit×Int
def nb_f(g:nb_G):Int×qd1×qwo:=(g.2.2.1,(g.1,g.2.1),(g.2.2.2.1,g.2.2.2.2.1,g.2.2.2.2.2.1,g.2.2.2.2.2.2))
def nb_g(d:Int×qd1×qwo):nb_G:=(d.2.1.1,d.2.1.2,d.1,d.2.2.1,d.2.2.2.1,d.2.2.2.2.1,d.2.2.2.2.2)
abbrev qwn(g:nb_G):Ex×nb_G:=nb_R g.1 g.2.1 g.2.2.1 g.2.2.2.1 g.2.2.2.2.1 g.2.2.2.2.2.1 g.2.2.2.2.2.2
abbrev zsy(g:nb_G):Prop:=qrc g.1 g.2.1 g.2.2.1 g.2.2.2.1 g.2.2.2.2.1 g.2.2.2.2.2.1 g.2.2.2.2.2.2
theorem zy8(g:nb_G):(qwn g).1=.normal\/(qwn g).1∈([.ret,.exit 0]:List Ex):=by
 unfold qwn nb_R
 repeat' (first|(left;rfl)|(right;simp only[cond_true,cond_false];simp;done)|(rw[Bool.cond_eq_ite];split))
abbrev nb_C(Inv:nb_G->List Prop)(m:nb_G->Nat):LCon:=q2q [.ret,.exit 0] (loopBody Tryz.prog 29 5) zt2 [] 39 Inv qwn m
theorem zlm(Inv:nb_G->List Prop)(m:nb_G->Nat)(hs:∀g,allP (Inv g)->zsy g)(hg:Goes qwn m λg=>allP (Inv g)):∀b∈q03 Tryz.prog 29,lkey b=5->q06 Tryz.prog b (nb_C Inv m).g:=q0s (Γ:=(MTab.gamz q5c [] [])) (Λ:=qp5) (MTab.okz q5c [] []) qbu 100 29 5 39 zt2 [] Inv qwn zsy m default [.ret,.exit 0] zt0 (λrd T B HL HB ds g=>by kernel_rfl) (λrd T B HL HB ds g=>by kernel_rfl) hs hg zy8
def qjd(cs:List Nat)(_u:Unit)(mp:MPk)(it:List Int×Nat)(o:List q00):List
 Nat:=
 qbq (λe=>(mp.fst.getD e (eKy.ent eI).dflt).snd.snd) mp.fst.length (λk=>it.fst.getD k (eInt IntKind.i64).dflt) it.fst.length
def qud(cs:List Nat)(_u:Unit)(mp:MPk)(it:List Int×Nat)(o:List q00):Nat:=
 qi1 (qjd cs _u mp it o) (hdC cs)
def qbi(cs:List Nat)(_u:Unit)(mp:MPk)(it:List Int×Nat)(o:List q00):Nat:=
 q2h (λe=>(mp.fst.getD e (eKy.ent eI).dflt).snd.snd==(mp.fst.getD (qud cs _u mp it o) (eKy.ent eI).dflt).snd.snd) mp.fst.length (0:Nat)
abbrev q71:Type:=Unit×MPk×(List Int×Nat)×List q00
def z14:LP 2 q71:=.pair (.fix 2 7 (.p 1 0)) (.pair (.mapO 2 0 true false eKy eI) (.pair (.mit 2 1 0) (.row 2 3 59 eC)))
def qol(cs:List Nat)(_u:Unit)(mp:MPk)(it:List Int×Nat)(o:List q00):Ex×q71:=
 bif decide ((qjd cs _u mp it o).length=(0:Nat))then(Ex.exit (0:Nat),(),((eKy.ent eI).lst mp.fst.length ((eKy.ent eI).els mp.fst),mp.snd),((eInt IntKind.i64).lst it.fst.length ((eInt IntKind.i64).els it.fst),it.snd),eC.lst o.length (eC.els o))
 else bif (mp.fst.getD (qbi cs _u mp it o) (eKy.ent eI).dflt).snd.fst !=(0:Int)then(Ex.normal,(),((eKy.ent eI).lst mp.fst.length ((eKy.ent eI).els mp.fst),mp.snd),((eInt IntKind.i64).lst (min (it.fst.length+(1:Nat)) it.fst.length) ((eInt IntKind.i64).els it.fst)++List.map (λx=>(mp.fst.getD (qud cs _u mp it o) (eKy.ent eI).dflt).snd.snd) (List.range (it.fst.length+(1:Nat)-it.fst.length)),it.snd),eC.lst (min (o.length+(1:Nat)) o.length) (eC.els o)++List.map (λx=>q00.mk (mp.fst.getD (qbi cs _u mp it o) (eKy.ent eI).dflt).fst.fst (mp.fst.getD (qbi cs _u mp it o) (eKy.ent eI).dflt).fst.snd (mp.fst.getD (qbi cs _u mp it o) (eKy.ent eI).dflt).snd.fst) (List.range (o.length+(1:Nat)-o.length)))else(Ex.normal,(),((eKy.ent eI).lst mp.fst.length ((eKy.ent eI).els mp.fst),mp.snd),((eInt IntKind.i64).lst (min (it.fst.length+(1:Nat)) it.fst.length) ((eInt IntKind.i64).els it.fst)++List.map (λx=>(mp.fst.getD (qud cs _u mp it o) (eKy.ent eI).dflt).snd.snd) (List.range (it.fst.length+(1:Nat)-it.fst.length)),it.snd),eC.lst o.length (eC.els o))
def q61(cs:List Nat)(_u:Unit)(mp:MPk)(it:List Int×Nat)(o:List q00):Prop:=
 (it.snd=mp.snd/\it.snd=mp.snd)/\(∀(e:Nat),e<mp.fst.length->True)/\(∀(k:Nat),k<it.fst.length->True)/\(decide ((qjd cs _u mp it o).length=(0:Nat))=true->(∀(e:Nat),e<mp.fst.length->True)/\it.snd=it.snd/\(∀(e:Nat),e<it.fst.length->True)/\o.length<=o.length/\∀(e:Nat),e<o.length->True)/\(decide ((qjd cs _u mp it o).length=(0:Nat))=false->it.snd=mp.snd/\(∀(e:Nat),e<mp.fst.length->True)/\True/\(qbi cs _u mp it o)<mp.fst.length/\(((mp.fst.getD (qbi cs _u mp it o) (eKy.ent eI).dflt).snd.fst !=(0:Int))=true->(o.length<=o.length/\True/\o.length+(1:Nat)<=maxLen/\(o.length+(1:Nat))*Tryz.prog.types[(59:Nat)].bytes<=(140737488355328:Nat))/\(∀(e:Nat),e<mp.fst.length->True)/\it.snd=it.snd/\(∀(e:Nat),e<min (it.fst.length+(1:Nat)) it.fst.length->True)/\(∀(e:Nat),e<it.fst.length+(1:Nat)-it.fst.length->True)/\o.length+(1:Nat)<=o.length+(1:Nat)/\(∀(e:Nat),e<min (o.length+(1:Nat)) o.length->True)/\∀(e:Nat),e<o.length+(1:Nat)-o.length->True)/\(((mp.fst.getD (qbi cs _u mp it o) (eKy.ent eI).dflt).snd.fst !=(0:Int))=false->(∀(e:Nat),e<mp.fst.length->True)/\it.snd=it.snd/\(∀(e:Nat),e<min (it.fst.length+(1:Nat)) it.fst.length->True)/\(∀(e:Nat),e<it.fst.length+(1:Nat)-it.fst.length->True)/\o.length<=o.length/\∀(e:Nat),e<o.length->True))
theorem zle:((q03 Tryz.prog 73).filter λc=>Nat.beq (lkey c) 3).length=1:=by kernel_rfl
abbrev z9y:List Ex:=[.exit 0]
theorem zsv(cs:List Nat)(g:q71):(qol cs g.1 g.2.1 g.2.2.1 g.2.2.2).1=.normal\/(qol cs g.1 g.2.1 g.2.2.1 g.2.2.2).1∈z9y:=by
 unfold qol
 repeat' (first|(left;rfl)|(right;simp only[cond_true,cond_false];simp;done)|(rw[Bool.cond_eq_ite];split))
abbrev qom(cs:List Nat)(g:q71):Ex×q71:=qol cs g.1 g.2.1 g.2.2.1 g.2.2.2
abbrev zsw(Inv:q71->List Prop)(m:q71->Nat):LCon:=qur z9y (loopBody Tryz.prog 73 3) z14 [] 27 Inv qom m
theorem z9x(Inv:q71->List Prop)(m:q71->Nat)(hs:∀cs g,allP (Inv g)->q61 cs g.1 g.2.1 g.2.2.1 g.2.2.2)(hg:qdq qom m λg=>allP (Inv g)):∀b∈q03 Tryz.prog 73,lkey b=3->q06 Tryz.prog b (zsw Inv m).g:=qow (Γ:=(MTab.gamz q5c [] [])) (Λ:=qp5) (MTab.okz q5c [] []) qbu 100 73 3 27 z14 [] Inv qom (λcs g=>q61 cs g.1 g.2.1 g.2.2.1 g.2.2.2) m default z9y zle (λrd T B HL HB ds cs g=>by kernel_rfl) (λrd T B HL HB ds cs g=>by kernel_rfl) hs hg zsv
open Go.RowKit Go.Sx Go.Lp
abbrev dK:MK:=(eKy.ent eI).dflt
theorem eqKy(a:Place)(t:T)(k:Ky):(a.node==k.1.node&&(a.port==k.1.port&&(t.e==k.2.e&&(t.d==k.2.d&&(t.l0==k.2.l0&&(t.l1==k.2.l1&&(t.l2==k.2.l2&&t.l3==k.2.l3)))))))=decide ((a,t)=k):=by
 obtain⟨a1,a2⟩:=a;obtain⟨e,d,p0,p1,p2,p3⟩:=t;obtain⟨⟨b1,b2⟩,⟨e',d',p0',p1',p2',p3'⟩⟩:=k;rw[Bool.eq_iff_iff];simp[and_assoc]
def keyC(c:q00):Ky:=(c.p,c.t)
def addW(b n:Int):Int:=IntKind.i64.wrap (b+n)
def q5u(m:List MK×Nat)(x:q00):List MK×Nat:=qef keyC q00.n addW 0 dK m x
def nb_S(_:qd1)(b:qwo)(_:Int)(v:q00):Ex×qwo:=bif !q9y v.n then(.ret,((),b.2.1,(),150))else(.normal,((),q5u b.2.1 v,(),b.2.2.2))
def nb_K(_:qd1)(_:qwo)(_:Int):Prop:=True
abbrev nb_I(g:nb_G):List Prop:=ixI (λc:qd1=>c.2) (λc=>c.1) nb_K (nb_f g)
abbrev nb_M(g:nb_G):Nat:=ixM (λc:qd1=>c.2) (nb_f g)
theorem nb_P:ixP nb_S (λc:qd1=>c.1) nb_K:=λ_ _ _ _ h _ _=>h
abbrev zln(g:nb_G):Ex×nb_G:=nb_R g.1 g.2.1 g.2.2.1 g.2.2.2.1 g.2.2.2.2.1 g.2.2.2.2.2.1 g.2.2.2.2.2.2
theorem nb_q(xs:List q00)(n i:Int)(m:List MK×Nat)(r:Int):q1g xs n i () m () r=m.1.findIdx λe=>decide (keyC (xs.getD i.toNat eC.dflt)=e.1):=
 q5k _ dK m.1 λj _=>eqKy _ _ _
theorem zt1(d:Int×qd1×qwo)(_:allP (ixI (λc:qd1=>c.2) (λc=>c.1) nb_K d)):zln (nb_g d)=((ixF 0 (λc:qd1=>c.2) (λc=>c.1) eC.dflt nb_S d).1,nb_g (ixF 0 (λc:qd1=>c.2) (λc=>c.1) eC.dflt nb_S d).2):=by
 obtain⟨i,⟨xs,n⟩,⟨⟨⟩,m,⟨⟩,r⟩⟩:=d;show nb_R xs n i () m () r=_;unfold nb_R ixF nb_S q9y;rw[nb_q];simp only[El.ag_eq];generalize (xs.getD i.toNat eC.dflt)=v;cases decide (i<n)with
 |false=>rfl
 |true=>
  simp only[cond_true];cases(decide (v.n>=(-1099511627776:Int))&&decide (v.n<=(1099511627776:Int)))with
  |false=>rfl
  |true=>
   simp only[Bool.not_true,cond_false];have hle:(m.1.findIdx λe=>decide (keyC v=e.1))<=m.1.length:=List.findIdx_le_length;rw[qgf _ _ _ hle];unfold q5u qef;by_cases hj:(m.1.findIdx λe=>decide (keyC v=e.1))<m.1.length
   .simp only[hj,decide_true,cond_true,if_true];rfl
   .simp only[hj,decide_false,cond_false,if_false];rfl
end
end Go.Proofs.YthnojkbkojpadaaGreat

namespace Go.Proofs.YthnojkbkojpadaaGreat
open Go.RowKit Go.Sx Go.Lp
theorem qaj:∀(k e i:Nat)(f:Nat->Bool),i<k->f (e+i)=true->(∀j,j<i->f (e+j)=false)->q2h f k e=e+i
 |0,_,_,_,h,_,_=>absurd h (Nat.not_lt_zero _)
 |k+1,e,0,f,_,hf,_=>by
  have hf:f e=true:=hf;unfold q2h;rw[hf];rfl
 |k+1,e,i+1,f,hi,hf,hl=>by
  have h0:f e=false:=hl 0 (Nat.succ_pos _);unfold q2h;rw[h0];show q2h f k (e+1)=_;rw[qaj k (e+1) i f (by omega) (by rw[show e+1+i=e+(i+1) by omega];exact hf) (λj hj=>by rw[show e+1+j=e+(j+1) by omega];exact hl (j+1) (by omega))];omega
theorem zsz(xs:List q00)(n i:Int)(m:List MK×Nat)(r:Int):z1d xs n i () m () r=q1g xs n i () m () r:=by
 have h1:=nb_q xs n i m r;have hle:q1g xs n i () m () r<=m.1.length:=by rw[h1];exact List.findIdx_le_length
 have h2:=qaj (bif decide (q1g xs n i () m () r<m.1.length)then m.1.length else m.1.length+1) 0 (q1g xs n i () m () r);unfold z1d;rw[h2 _ ?_ ?_ ?_,Nat.zero_add]
 .by_cases h:q1g xs n i () m () r<m.1.length
  .rw[decide_eq_true h];exact h
  .rw[decide_eq_false h];show _<m.1.length+1;omega
 .rw[Nat.zero_add,decide_eq_true (rfl:q1g xs n i () m () r=q1g xs n i () m () r)];simp only[cond_true,beq_self_eq_true,Bool.and_self]
 .intro j hj;rw[Nat.zero_add,decide_eq_false (by omega:¬j=q1g xs n i () m () r)];simp only[cond_false];have h3:=eqKy (xs.getD i.toNat eC.dflt).p (xs.getD i.toNat eC.dflt).t (m.1.getD j dK).1;refine h3.trans ?_;rw[h1]at hj;have h4:=List.not_of_lt_findIdx hj;have hjl:j<m.1.length:=by rw[h1]at hle;omega
  rw[show m.1.getD j dK=m.1[j] by simp[List.getD_eq_getElem?_getD,hjl]];simpa [keyC]using h4
theorem zy7:∀b∈q03 Tryz.prog 29,lkey b=5->q06 Tryz.prog b (nb_C nb_I nb_M).g:=by
 refine zlm nb_I nb_M (λg hi=>?_) (q0e (λ_=>rfl) (λ_=>rfl) zt1 nb_P);obtain⟨xs,n,i,⟨⟩,m,⟨⟩,r⟩:=g;obtain⟨h1,h2,h3,h4,h5⟩:=hi _ (List.mem_cons_self ..);have h1:n=(xs.length:Int):=h1;have h3:0<=i:=h3;have hle:q1g xs n i () m () r<=m.1.length:=by rw[nb_q];exact List.findIdx_le_length
 have hlt:decide (q1g xs n i () m () r<(bif decide (q1g xs n i () m () r<m.1.length)then m.1.length else m.1.length+1))=true:=by
  by_cases h:q1g xs n i () m () r<m.1.length
  .rw[decide_eq_true h];exact decide_eq_true h
  .rw[decide_eq_false h];exact decide_eq_true (by show _<m.1.length+1;omega)
 show qrc xs n i () m () r;unfold qrc;simp only[El.okL_eq,El.ag_eq,zsz,hlt,cond_true,decide_true];refine⟨λhlt=>?_,λ_=>⟨trivial,λ_ _=>trivial⟩⟩;have hr:=rngP i n _ h1 h3 hlt;refine⟨hr,λ_=>⟨trivial,λ_ _=>trivial⟩,λ_ cs=>⟨λ_=>?_,λ_=>?_⟩⟩
 .repeat' (first|exact(λ_ _=>rfl)|exact(λ_ _=>trivial)|exact(λ_=>rfl)|exact(λ_=>trivial)|exact rfl|apply And.intro|exact trivial)
 .repeat' (first|exact(λ_ _=>rfl)|exact(λ_ _=>trivial)|exact(λ_=>rfl)|exact(λ_=>trivial)|exact rfl|apply And.intro|exact trivial)
end Go.Proofs.YthnojkbkojpadaaGreat

namespace Go.Proofs.YthnojkbkojpadaaGreat
noncomputable section
open Go.RowKit Go.Sx Go.Lp
def mapJ(mp:List MK×Nat)(it:List Int×Nat):Prop:=Bn mp.1 mp.2/\Kd mp.1/\it.2=mp.2
def entC(e:MK):q00:=⟨e.1.1,e.1.2,e.2.1⟩
def qg6(e:MK)(b:List q00):Ex×List q00:=(.normal,bif e.2.1 !=(0:Int)then b++[entC e]else b)
abbrev qwl(g:q71):List Prop:=[mapJ g.2.1 g.2.2.1/\g.2.2.2.length+(left g.2.1.1 g.2.2.1.1).length<=KS]
abbrev z0z(g:q71):Nat:=(left g.2.1.1 g.2.2.1.1).length
def qok(g:q71)(s:List Int)(b:List q00):q71:=((),g.2.1,(s,g.2.2.1.2),b)
theorem que(cs:List Nat)(g:q71)(hi:allP (qwl g)):((left g.2.1.1 g.2.2.1.1).length=0/\qom cs g=(.exit 0,g)/\q61 cs g.1 g.2.1 g.2.2.1 g.2.2.2)\/∃e,(left g.2.1.1 g.2.2.1.1)[(hdC cs).headD 0%(left g.2.1.1 g.2.2.1.1).length]?=some e/\qom cs g=((qg6 e g.2.2.2).1,qok g (g.2.2.1.1++[e.2.2]) (qg6 e g.2.2.2).2)/\q61 cs g.1 g.2.1 g.2.2.1 g.2.2.2:=by
 obtain⟨⟨⟩,⟨mp,clk⟩,⟨sn,si⟩,o⟩:=g;obtain⟨⟨hb,hk,hs⟩,hlen⟩:=hi _ (List.mem_cons_self ..);have hs:si=clk:=hs;have hlen:o.length+(left mp sn).length<=KS:=hlen;subst hs;have hq1:qjd cs () (mp,si) (sn,si) o=qbq (λe=>(mp.getD e dK).2.2) mp.length (λk=>sn.getD k (eInt IntKind.i64).dflt) sn.length:=rfl;have hq0:=zar hq1;by_cases h0:(qjd cs () (mp,si) (sn,si) o).length=0
 .refine .inl ⟨by show(left mp sn).length=0;rw[<-hq0];exact h0,?_,?_⟩
  .show qol cs () (mp,si) (sn,si) o=_;unfold qol;rw[decide_eq_true h0];simp only[cond_true,El.lst_els]
  .show q61 cs () (mp,si) (sn,si) o;unfold q61;rw[decide_eq_true h0];exact⟨⟨rfl,rfl⟩,λ_ _=>trivial,λ_ _=>trivial,λ_=>⟨λ_ _=>trivial,rfl,λ_ _=>trivial,Nat.le_refl _,λ_ _=>trivial⟩,λh=>(by cases h)⟩
 .obtain⟨j,hj,hjl,hat,hsn⟩:=z1u hq1 h0 (hdC cs);have hg:mp.getD j dK=mp[j]:=by simp[List.getD_eq_getElem?_getD,hjl]
  have hq2:qud cs () (mp,si) (sn,si) o=j:=hj;have hq3:qbi cs () (mp,si) (sn,si) o=j:=z8a hb hjl (by unfold qbi;rw[hq2]);rw[hg]at hat;refine .inr ⟨mp[j],hat,?_,?_⟩
  .show qol cs () (mp,si) (sn,si) o=_;unfold qol qg6;rw[decide_eq_false h0,hq3,hq2];simp only[cond_false];rw[qf4,qf4,El.lst_els,El.lst_els];simp only[hg];cases mp[j].2.1 !=(0:Int)<;>rfl
  .show q61 cs () (mp,si) (sn,si) o;unfold q61;rw[decide_eq_false h0,hq3];have b0':o.length<=KS:=by omega
   have b0:o.length<=1000000:=b0';have b1:o.length+1<=maxLen:=by unfold maxLen;omega
   refine⟨⟨rfl,rfl⟩,λ_ _=>trivial,λ_ _=>trivial,λh=>(by cases h),λ_=>⟨rfl,λ_ _=>trivial,trivial,hjl,λ_=>⟨⟨Nat.le_refl _,trivial,b1,by rw[qt2];omega⟩,λ_ _=>trivial,rfl,λ_ _=>trivial,λ_ _=>trivial,Nat.le_refl _,λ_ _=>trivial,λ_ _=>trivial⟩,λ_=>⟨λ_ _=>trivial,rfl,λ_ _=>trivial,λ_ _=>trivial,Nat.le_refl _,λ_ _=>trivial⟩⟩⟩
theorem z0y:qdq qom z0z (λg=>allP (qwl g))/\∀cs g,allP (qwl g)->∃s,q3s qom z0z cs g=((qb3 0 qg6 (q4j (left g.2.1.1 g.2.2.1.1).length cs (left g.2.1.1 g.2.2.1.1)) g.2.2.2).1,qok g s (qb3 0 qg6 (q4j (left g.2.1.1 g.2.2.1.1).length cs (left g.2.1.1 g.2.2.1.1)) g.2.2.2).2):=
 z3u (mp:=λg:q71=>g.2.1.1) (sn:=λg=>g.2.2.1.1) (clk:=λg=>g.2.1.2) (bo:=λg=>g.2.2.2) (up:=qok) (λ_ _ _=>rfl) (λ_ _ _=>rfl) (λ_ _ _=>rfl) (λ_ _ _ _ _=>rfl) (λ_=>rfl) (λg h=>(h _ (List.mem_cons_self ..)).1.1) (λ_=>rfl)
  (λg e h he hlt hn p hp=>by
   rw[List.mem_singleton.1 hp];obtain⟨hI,hlen⟩:=h _ (List.mem_cons_self ..);refine⟨hI,?_⟩;show(qg6 e g.2.2.2).2.length+(left g.2.1.1 (g.2.2.1.1++[e.2.2])).length<=KS
   have:(qg6 e g.2.2.2).2.length<=g.2.2.2.length+1:=by
    unfold qg6;cases e.2.1 !=(0:Int)<;>simp
   omega)
  λcs g h=>by
   rcases que cs g h with ⟨h1,h2,_⟩|⟨e,he,h2,_⟩
   .exact .inl ⟨h1,h2⟩
   .exact .inr ⟨e,he,h2⟩
theorem zsu:∀b∈q03 Tryz.prog 73,lkey b=3->q06 Tryz.prog b (zsw qwl z0z).g:=
 z9x qwl z0z (λcs g hi=>by
  rcases que cs g hi with ⟨_,_,h⟩|⟨_,_,_,h⟩
  .exact h
  .exact h) z0y.1
def z9w(cs:List Nat)(g:q71):Ex×List q00:=qb3 0 qg6 (q4j (left g.2.1.1 g.2.2.1.1).length cs (left g.2.1.1 g.2.2.1.1)) g.2.2.2
def nor_f'(cs:List Nat)(g:q71):Ex×q71:=((z9w cs g).1,qok g (q3s qom z0z cs g).2.2.2.1.1 (z9w cs g).2)
abbrev zfk:LCon:=z1q z9y (loopBody Tryz.prog 73 3) z14 [] 27 qwl nor_f'
theorem zlf:∀b∈q03 Tryz.prog 73,lkey b=3->q06 Tryz.prog b zfk.g:=λb hb hk=>
 qjh (λ_ h=>h) (λg hi cs=>⟨cs,by
  obtain⟨s,hs⟩:=z0y.2 cs g hi;unfold nor_f' z9w;rw[hs];rfl⟩) (zsu b hb hk)
end
end Go.Proofs.YthnojkbkojpadaaGreat

namespace Go.Proofs.YthnojkbkojpadaaGreat
open Go.RowKit Go.Sx Go.Lp Go.Sort
def keyK(k:Ky):List Int:=[k.1.node,k.1.port,k.2.e,k.2.d,k.2.l0,k.2.l1,k.2.l2,k.2.l3]
theorem zb2(a b:Ky)(h:keyK a=keyK b):a=b:=by
 obtain⟨⟨f,k⟩,⟨e,d,p0,p1,p2,p3⟩⟩:=a;obtain⟨⟨f',k'⟩,⟨e',d',p0',p1',p2',p3'⟩⟩:=b;simp only[keyK,List.cons.injEq,and_true]at h;obtain⟨rfl,rfl,rfl,rfl,rfl,rfl,rfl,rfl⟩:=h;rfl
def lexK(a b:Ky):Int:=lexC (keyK a) (keyK b)
theorem toK:TO lexK:=qte keyK zb2 λ_ _=>Iff.rfl
theorem qai(a b:q00):q4o a b=lexK (keyC a) (keyC b):=by
 show q4o a b=lexC (a.p.node::a.p.port::keyT a.t) (b.p.node::b.p.port::keyT b.t);unfold q4o;simp only[qq7,lexC,or_self,<-qtf];rcases cmp3 a.p.node b.p.node with ⟨h,e⟩|⟨h,e⟩|⟨h,e⟩<;>simp only[e]
 .simp[h]
 .have:¬a.p.node<b.p.node:=by omega
  simp[h,this]
 rw[if_neg (by omega),if_neg (by omega)];rcases cmp3 a.p.port b.p.port with ⟨h,e⟩|⟨h,e⟩|⟨h,e⟩<;>simp only[e]
 .simp[h]
 .have:¬a.p.port<b.p.port:=by omega
  simp[h,this]
 rw[if_neg (by omega),if_neg (by omega)];rfl
theorem swoC:SWO λx y=>decide (q4o x y<0):=⟨λx=>by rw[qai];exact toK.swo.irrefl _,λx y z h1 h2=>by rw[qai]at h1 h2 ⊢;exact toK.swo.trans _ _ _ h1 h2,λx y z h1 h2=>by rw[qai]at h1 h2 ⊢;exact toK.swo.ntrans _ _ _ h1 h2⟩
end Go.Proofs.YthnojkbkojpadaaGreat

namespace Go.Proofs.YthnojkbkojpadaaGreat
open Go.RowKit Go.Sx Go.Lp Go.Shelf Go.Sort
def qze:Go.Shelf.Ren:=⟨λ|6=>116|15=>138|14=>148|28=>172|29=>173|20=>177|21=>178|22=>179|23=>180|24=>181|25=>182|26=>183|27=>184|46=>206|47=>202|48=>203|49=>207|50=>208|57=>223|n=>n,λ|22=>48|24=>59|25=>174|3=>3|39=>188|0=>0|53=>218|55=>220|4=>4|46=>212|45=>211|50=>27|5=>5|9=>9|66=>237|70=>241|76=>259|77=>260|n=>n,λ|n=>n⟩
theorem zxv:SlLaysF0.n6 Tryz.prog qze:={
 mixed:=by kernel_rfl,
 f6:=⟨Tryz.f116.name,by decide,Tryz.func116.trans (congrArg some (by kernel_rfl))⟩,
 f14:=⟨Tryz.f148.name,by decide,Tryz.func148.trans (congrArg some (by kernel_rfl))⟩,
 f15:=Tryz.func138.trans (congrArg some (by kernel_rfl)),
 f20:=⟨Tryz.f177.name,by decide,Tryz.func177.trans (congrArg some (by kernel_rfl))⟩,
 f21:=⟨Tryz.f178.name,by decide,Tryz.func178.trans (congrArg some (by kernel_rfl))⟩,
 f22:=⟨Tryz.f179.name,by decide,Tryz.func179.trans (congrArg some (by kernel_rfl))⟩,
 f23:=⟨Tryz.f180.name,by decide,Tryz.func180.trans (congrArg some (by kernel_rfl))⟩,
 f24:=⟨Tryz.f181.name,by decide,Tryz.func181.trans (congrArg some (by kernel_rfl))⟩,
 f25:=⟨Tryz.f182.name,by decide,Tryz.func182.trans (congrArg some (by kernel_rfl))⟩,
 f26:=⟨Tryz.f183.name,by decide,Tryz.func183.trans (congrArg some (by kernel_rfl))⟩,
 f27:=⟨Tryz.f184.name,by decide,Tryz.func184.trans (congrArg some (by kernel_rfl))⟩,
 f28:=Tryz.func172.trans (congrArg some (by kernel_rfl)),
 f29:=Tryz.func173.trans (congrArg some (by kernel_rfl)),
 f46:=⟨Tryz.f206.name,by decide,Tryz.func206.trans (congrArg some (by kernel_rfl))⟩,
 f47:=Tryz.func202.trans (congrArg some (by kernel_rfl)),
 f48:=Tryz.func203.trans (congrArg some (by kernel_rfl)),
 f49:=⟨Tryz.f207.name,by decide,Tryz.func207.trans (congrArg some (by kernel_rfl))⟩,
 f50:=⟨Tryz.f208.name,by decide,Tryz.func208.trans (congrArg some (by kernel_rfl))⟩,
 f57:=⟨Tryz.f223.name,by decide,Tryz.func223.trans (congrArg some (by kernel_rfl))⟩,
 t0:=Tryz.underlying0,
 a0:=Tryz.isAgg0,
 z0:=Tryz.sizeOf0,
 v0:=Tryz.zeroValue0,
 t3:=Tryz.underlying3,
 a3:=Tryz.isAgg3,
 z3:=Tryz.sizeOf3,
 v3:=Tryz.zeroValue3,
 t4:=Tryz.underlying4,
 a4:=Tryz.isAgg4,
 z4:=Tryz.sizeOf4,
 v4:=Tryz.zeroValue4,
 t5:=Tryz.underlying5,
 a5:=Tryz.isAgg5,
 z5:=Tryz.sizeOf5,
 v5:=Tryz.zeroValue5,
 t9:=Tryz.underlying9,
 a9:=Tryz.isAgg9,
 z9:=Tryz.sizeOf9,
 v9:=Tryz.zeroValue9,
 t22:=Tryz.underlying48,
 a22:=Tryz.isAgg48,
 z22:=Tryz.sizeOf48,
 v22:=Tryz.zeroValue48,
 t25:=Tryz.underlying174,
 a25:=Tryz.isAgg174,
 z25:=Tryz.sizeOf174,
 v25:=Tryz.zeroValue174,
 t39:=Tryz.underlying188,
 a39:=Tryz.isAgg188,
 z39:=Tryz.sizeOf188,
 v39:=Tryz.zeroValue188,
 t45:=Tryz.underlying211,
 a45:=Tryz.isAgg211,
 z45:=Tryz.sizeOf211,
 v45:=Tryz.zeroValue211,
 t46:=Tryz.underlying212,
 a46:=Tryz.isAgg212,
 z46:=Tryz.sizeOf212,
 v46:=Tryz.zeroValue212,
 t50:=Tryz.underlying27,
 a50:=Tryz.isAgg27,
 z50:=Tryz.sizeOf27,
 v50:=Tryz.zeroValue27,
 t53:=Tryz.underlying218,
 a53:=Tryz.isAgg218,
 z53:=Tryz.sizeOf218,
 v53:=Tryz.zeroValue218,
 t55:=Tryz.underlying220,
 a55:=Tryz.isAgg220,
 z55:=Tryz.sizeOf220,
 v55:=Tryz.zeroValue220,
 t66:=Tryz.underlying237,
 a66:=Tryz.isAgg237,
 z66:=Tryz.sizeOf237,
 v66:=Tryz.zeroValue237,
 t70:=Tryz.underlying241,
 a70:=Tryz.isAgg241,
 z70:=Tryz.sizeOf241,
 v70:=Tryz.zeroValue241,
 t76:=Tryz.underlying259,
 a76:=Tryz.isAgg259,
 z76:=Tryz.sizeOf259,
 v76:=Tryz.zeroValue259,
 t77:=Tryz.underlying260,
 a77:=Tryz.isAgg260,
 z77:=Tryz.sizeOf260,
 v77:=Tryz.zeroValue260}
abbrev qkl:Dv Unit:=.tup .none
abbrev qqi:DA Unit:=.one (dFn 117)
def qoe(xs:List q00)(_:Unit):List Prop:=[xs.length<4611686018427387904,Anti (λa b=>q4o a b) xs]
theorem z8c:qht Tryz.prog 116 59 eC qqi (.pure qkl) (λxs _=>(q2g (λa b=>q4o a b) xs,())) qoe:=by
 have h:=qtn (P:=Tryz.prog) (A:=eC) (t:=59) (g:=117) (cf:=λa b=>q4o a b) (pre:=λ_=>[]) zxv Tryz.isAgg59 Tryz.sizeOf59 (by decide) (Go.Proofs.enters_of Tryz.func117 (by kernel_rfl) rfl) swoC ztk;intro w F L xs g v0 vs h1 h2 h3 h4 h5 h6 h7;refine h w F L xs g v0 vs h1 h2 h3 h4 (λp hp=>?_) h6 h7;simp only[List.mem_cons,List.not_mem_nil,or_false]at hp;rcases hp with rfl|rfl|rfl
 .exact h5 _ (List.mem_cons_self ..)
 .exact h5 _ (List.mem_cons_of_mem _ (List.mem_cons_self ..))
 .exactλx _ y _ p hp=>by cases hp
end Go.Proofs.YthnojkbkojpadaaGreat

namespace Go.Proofs.YthnojkbkojpadaaGreat
noncomputable section
open Go.RowKit Go.Sx
abbrev aLf1:DA (List q00×Unit):=.cons dLC (.one (dFn 71))
abbrev aLf2:DA (List q00×Unit):=.cons dLC (.one (dFn 74))
def z2p(xs:List q00)(u:Unit):Ex×
 q7n:=
 q07 (λg=>qrz g.fst g.snd.fst g.snd.snd.fst g.snd.snd.snd.fst g.snd.snd.snd.snd) qx2 (eC.ag xs,(),(↑xs.length:Int),(0:Int),(0:Int))
def qrv(xs:List q00)(u:Unit):Dv.T dI:=
 bif exB Ex.ret (z2p xs u).fst then(z2p xs u).snd.snd.snd.snd.snd else(-1:Int)
def qf7(xs:List q00)(u:Unit):Prop:=
 eC.okL xs/\Lp.ixJ (λc=>c.snd) (λc=>c.fst) z2v (zbg (eC.ag xs,(),(↑xs.length:Int),(0:Int),(0:Int)))
theorem zmj(pre:DA.T aLf1->List Prop)(h:∀g,DA.bd aLf1 g->(∀p∈pre g,p)->qf7 g.1 g.2):q09 Tryz.prog 115 aLf1 dI (λg=>qrv g.1 g.2) pre:=q0o (Γ:=(MTab.gamz q5c [] [])) (Λ:=qp5) (MTab.okz q5c [] []) qbu 100 default (λg=>qf7 g.1 g.2) (λg=>by kernel_rfl) (λg=>by kernel_rfl) h
def qsf(xs:List q00)(ys:List q00):Ex×
 q7t:=
 q07 (λg=>qsg g.fst g.snd.fst g.snd.snd.fst g.snd.snd.snd.fst g.snd.snd.snd.snd) qxe (eC.ag xs,eC.ag ys,(↑xs.length:Int),(0:Int),false)
def z4u(xs:List q00)(ys:List q00):Dv.T q0l:=
 bif (↑xs.length:Int)!=(↑ys.length:Int)then false
 else bif exB Ex.ret (qsf xs ys).fst then(qsf xs ys).snd.snd.snd.snd.snd else true
def qcb(xs:List q00)(ys:List q00):Prop:=
 ((↑xs.length:Int)!=(↑ys.length:Int))=false->eC.okL xs/\eC.okL ys/\Lp.ixJ (λc=>c.snd.snd) (λc=>c.fst) z4w (zc6 (eC.ag xs,eC.ag ys,(↑xs.length:Int),(0:Int),false))
theorem zc4(pre:DA.T aLLC->List Prop)(h:∀g,DA.bd aLLC g->(∀p∈pre g,p)->qcb g.1 g.2):q09 Tryz.prog 31 aLLC q0l (λg=>z4u g.1 g.2) pre:=q0o (Γ:=(MTab.gamz q5c [] [])) (Λ:=qp5) (MTab.okz q5c [] []) qbu 100 default (λg=>qcb g.1 g.2) (λg=>by kernel_rfl) (λg=>by kernel_rfl) h
def z2q(xs:List q00)(u:Unit):Ex×
 q7m:=
 q07 (λg=>qry g.fst g.snd.fst g.snd.snd.fst g.snd.snd.snd.fst g.snd.snd.snd.snd) qx1 (eC.ag xs,(),(↑xs.length:Int),(0:Int),(0:Int))
def qrw(xs:List q00)(u:Unit):Dv.T dI:=
 bif exB Ex.ret (z2q xs u).fst then(z2q xs u).snd.snd.snd.snd.snd else(-1:Int)
def qf8(xs:List q00)(u:Unit):Prop:=
 eC.okL xs/\Lp.ixJ (λc=>c.snd) (λc=>c.fst) z2t (zbe (eC.ag xs,(),(↑xs.length:Int),(0:Int),(0:Int)))
theorem zml(pre:DA.T aLf2->List Prop)(h:∀g,DA.bd aLf2 g->(∀p∈pre g,p)->qf8 g.1 g.2):q09 Tryz.prog 115 aLf2 dI (λg=>qrw g.1 g.2) pre:=q0o (Γ:=(MTab.gamz q5c [] [])) (Λ:=zfz) (MTab.okz q5c [] []) z2d 100 default (λg=>qf8 g.1 g.2) (λg=>by kernel_rfl) (λg=>by kernel_rfl) h
open Go.RowKit Go.Sx Go.Lp
def tBad(v:q00):Bool:=q1e v.t !=(0:Int)
def cBad(v:q00):Bool:=!q9y v.n
theorem zmi(xs:List q00)(u:Unit)(h:xs.length<=maxLen):decide (qrv xs u>=0)=xs.any tBad:=by
 unfold qrv z2p;simp only[El.ag_eq];have h1:q07 (λg:q7n=>qrz g.1 g.2.1 g.2.2.1 g.2.2.2.1 g.2.2.2.2) qx2 (xs,(),(xs.length:Int),0,0)=_:=zmu (xs,(xs.length:Int)) ((),(0:Int)) rfl h trivial;rw[h1];rcases search (x:=0) (st:=qi5 (xs,(xs.length:Int))) (p:=tBad) (r:=λi _ _=>((),i)) (λ_ _ _=>rfl) xs ((),0)with ⟨ha,j,hj,a,_,_,h2⟩|⟨ha,h2⟩
 .have h2:scan 0 (qi5 (xs,(xs.length:Int))) 0 xs ((),0)=_:=h2;rw[h2,ha];show decide (j>=0)=true;exact decide_eq_true hj
 .have h2:scan 0 (qi5 (xs,(xs.length:Int))) 0 xs ((),0)=_:=h2;rw[h2,ha];rfl
theorem zmk(xs:List q00)(u:Unit)(h:xs.length<=maxLen):decide (qrw xs u>=0)=xs.any cBad:=by
 unfold qrw z2q;simp only[El.ag_eq];have h1:q07 (λg:q7m=>qry g.1 g.2.1 g.2.2.1 g.2.2.2.1 g.2.2.2.2) qx1 (xs,(),(xs.length:Int),0,0)=_:=zmq (xs,(xs.length:Int)) ((),(0:Int)) rfl h trivial;rw[h1];rcases search (x:=0) (st:=qi4 (xs,(xs.length:Int))) (p:=cBad) (r:=λi _ _=>((),i)) (λ_ _ _=>rfl) xs ((),0)with ⟨ha,j,hj,a,_,_,h2⟩|⟨ha,h2⟩
 .have h2:scan 0 (qi4 (xs,(xs.length:Int))) 0 xs ((),0)=_:=h2;rw[h2,ha];show decide (j>=0)=true;exact decide_eq_true hj
 .have h2:scan 0 (qi4 (xs,(xs.length:Int))) 0 xs ((),0)=_:=h2;rw[h2,ha];rfl
theorem zyi:q09 Tryz.prog 115 aLf1 dI (λg=>qrv g.1 g.2) (λ_=>[]):=
 zmj _ λg hb hp=>by
  obtain⟨xs,u⟩:=g;have hl:xs.length<=maxLen:=hb.1.1;show qf7 xs u;unfold qf7;simp only[El.okL_eq,El.ag_eq];exact⟨trivial,ixJ0 rfl hl trivial⟩
theorem zyj:q09 Tryz.prog 115 aLf2 dI (λg=>qrw g.1 g.2) (λ_=>[]):=
 zml _ λg hb hp=>by
  obtain⟨xs,u⟩:=g;have hl:xs.length<=maxLen:=hb.1.1;show qf8 xs u;unfold qf8;simp only[El.okL_eq,El.ag_eq];exact⟨trivial,ixJ0 rfl hl trivial⟩
theorem zh4:q09 Tryz.prog 31 aLLC q0l (λg=>decide (g.1=g.2)) (λ_=>[]):=by
 have h:=zc4 (λ_=>[]) λg hb _=>by
  obtain⟨a,b⟩:=g;have ha:a.length<=maxLen:=hb.1.1;show qcb a b;unfold qcb;simp only[El.okL_eq,El.ag_eq];exactλhc=>⟨trivial,trivial,ixJ0 rfl ha (zfm hc)⟩
 refine q19 h λg hb _=>?_;obtain⟨a,b⟩:=g;have ha:a.length<=maxLen:=hb.1.1;show z4u a b=decide (a=b);unfold z4u qsf;simp only[El.ag_eq];cases hc:((a.length:Int)!=(b.length:Int))with
 |true=>
  have:a≠b:=λe=>by subst e;simp at hc
  simp[this]
 |false=>
  have hl:=zfm hc;have h1:q07 (λg:q7t=>qsg g.1 g.2.1 g.2.2.1 g.2.2.2.1 g.2.2.2.2) qxe (a,b,(a.length:Int),0,false)=_:=znz (a,b,(a.length:Int)) false rfl ha hl;rw[h1];rcases q8c (x:=0) b eC.dflt (st:=qdg (a,b,(a.length:Int))) (λ_ _ _=>rfl) a 0 false (by omega)with ⟨h2,h3⟩|⟨h2,h3,h4⟩
  .have h3:scan 0 (qdg (a,b,(a.length:Int))) 0 a false=_:=h3;rw[h3];rw[List.drop_zero]at h2;simp[h2,exB]
  .have h3:(scan 0 (qdg (a,b,(a.length:Int))) 0 a false).1=_:=h3;have h4:(scan 0 (qdg (a,b,(a.length:Int))) 0 a false).2.2=_:=h4;rw[List.drop_zero]at h2;show(bif exB .ret (scan 0 (qdg (a,b,(a.length:Int))) 0 a false).1 then(scan 0 (qdg (a,b,(a.length:Int))) 0 a false).2.2 else true)=_;rw[h3,h4];simp[h2,exB]
def qz4:MTab Tryz.prog:=((q5c.cons 115 (z0l 71 (q1y aLf1 dI (λg=>qrv g.1 g.2) (λ_=>[])) (q1y aLf2 dI (λg=>qrw g.1 g.2) (λ_=>[]))) (zx7 (q0k zyi puI) (q0k zyj puI))).cons 31 (q1y aLLC q0l (λg=>decide (g.1=g.2)) (λ_=>[])) (q0k zh4 puB)).consM 116 (zqb 59 eC qqi (.pure qkl) (λxs _=>(q2g (λa b=>q4o a b) xs,())) qoe) (qsv z8c)
def zlw:LTab Tryz.prog:=(zlv.cons 29 5 (nb_C nb_I nb_M) zy7).cons 73 3 zfk zlf
abbrev z2e:Lam:=zlw.lam
theorem qp6:∀f k L,z2e f k=some L->∀b∈q03 Tryz.prog f,lkey b=k->q06 Tryz.prog b L.g:=zlw.ok
abbrev dLCE:Dv (List q00×Int):=.tup (.cons dLC (.one dI))
def q29(cs:List Nat)(xs:List q00):Ex×
 nb_G:=
 q07 (λg=>nb_R g.fst g.snd.fst g.snd.snd.fst g.snd.snd.snd.fst g.snd.snd.snd.snd.fst g.snd.snd.snd.snd.snd.fst g.snd.snd.snd.snd.snd.snd) nb_M (eC.lst xs.length (eC.els xs),(↑xs.length:Int),(0:Int),(),(List.map (λx=>((Place.mk (0:Int) (0:Int),T.mk (0:Int) (0:Int) (0:Int) (0:Int) (0:Int) (0:Int)),(0:Int),(0:Int))) (List.range (0:Nat)),(0:Nat)),(),(0:Int))
def q1o(cs:List Nat)(xs:List q00):Ex×
 q71:=
 nor_f' (hdC cs) ((),((eKy.ent eI).lst (q29 cs xs).snd.snd.snd.snd.snd.fst.fst.length ((eKy.ent eI).els (q29 cs xs).snd.snd.snd.snd.snd.fst.fst),(q29 cs xs).snd.snd.snd.snd.snd.fst.snd),(List.map (λx=>(0:Int)) (List.range (0:Nat)),(q29 cs xs).snd.snd.snd.snd.snd.fst.snd),[])
def quk(cs:List Nat)(xs:List q00):Dv.T dLCE:=
 bif decide (qrv (eC.lst xs.length (eC.els xs)) ()>=(0:Int))then([],(10:Int))
 else bif exB Ex.ret (q29 cs xs).fst then([],(q29 cs xs).snd.snd.snd.snd.snd.snd.snd)else bif decide (qrw (eC.lst (q1o cs xs).snd.snd.snd.snd.length (ElE.fn (eC.els (q2g (λa b=>q4o a b) (eC.lst (q1o cs xs).snd.snd.snd.snd.length (eC.els (q1o cs xs).snd.snd.snd.snd))))).at) ()>=(0:Int))then([],(150:Int))else(eC.lst (q1o cs xs).snd.snd.snd.snd.length (ElE.fn (eC.els (q2g (λa b=>q4o a b) (eC.lst (q1o cs xs).snd.snd.snd.snd.length (eC.els (q1o cs xs).snd.snd.snd.snd))))).at,(0:Int))
def qbj(cs:List Nat)(xs:List q00):Prop:=
 (∀(e:Nat),e<xs.length->eC.Ok (eC.els xs e))/\(decide (qrv (eC.lst xs.length (eC.els xs)) ()>=(0:Int))=false->(∀(e:Nat),e<xs.length->eC.Ok (eC.els xs e))/\(∀(e:Nat),e<(0:Nat)->True)/\Lp.ixJ (λc=>c.snd) (λc=>c.fst) nb_K (nb_f (eC.lst xs.length (eC.els xs),(↑xs.length:Int),(0:Int),(),(List.map (λx=>((Place.mk (0:Int) (0:Int),T.mk (0:Int) (0:Int) (0:Int) (0:Int) (0:Int) (0:Int)),(0:Int),(0:Int))) (List.range (0:Nat)),(0:Nat)),(),(0:Int)))/\(exB Ex.ret (q29 cs xs).fst=false->(∀(e:Nat),e<(q29 cs xs).snd.snd.snd.snd.snd.fst.fst.length->True)/\(q29 cs xs).snd.snd.snd.snd.snd.fst.snd=(q29 cs xs).snd.snd.snd.snd.snd.fst.snd/\(∀(e:Nat),e<(0:Nat)->True)/\(mapJ ((eKy.ent eI).lst (q29 cs xs).snd.snd.snd.snd.snd.fst.fst.length ((eKy.ent eI).els (q29 cs xs).snd.snd.snd.snd.snd.fst.fst),(q29 cs xs).snd.snd.snd.snd.snd.fst.snd) (List.map (λx=>(0:Int)) (List.range (0:Nat)),(q29 cs xs).snd.snd.snd.snd.snd.fst.snd)/\(0:Nat)+(Lp.left ((eKy.ent eI).lst (q29 cs xs).snd.snd.snd.snd.snd.fst.fst.length ((eKy.ent eI).els (q29 cs xs).snd.snd.snd.snd.snd.fst.fst)) (List.map (λx=>(0:Int)) (List.range (0:Nat)))).length<=KS)/\(q1o cs xs).snd.snd.snd.snd.length=(q1o cs xs).snd.snd.snd.snd.length/\(∀(e:Nat),e<(q1o cs xs).snd.snd.snd.snd.length->True)/\(eC.lst (q1o cs xs).snd.snd.snd.snd.length (eC.els (q1o cs xs).snd.snd.snd.snd)).length<(4611686018427387904:Nat)/\Anti (λa b=>q4o a b) (eC.lst (q1o cs xs).snd.snd.snd.snd.length (eC.els (q1o cs xs).snd.snd.snd.snd))/\(q1o cs xs).snd.snd.snd.snd.length<=(q2g (λa b=>q4o a b) (eC.lst (q1o cs xs).snd.snd.snd.snd.length (eC.els (q1o cs xs).snd.snd.snd.snd))).length/\(∀(e:Nat),e<(q1o cs xs).snd.snd.snd.snd.length->eC.Ok ((ElE.fn (eC.els (q2g (λa b=>q4o a b) (eC.lst (q1o cs xs).snd.snd.snd.snd.length (eC.els (q1o cs xs).snd.snd.snd.snd))))).at e))/\(decide (qrw (eC.lst (q1o cs xs).snd.snd.snd.snd.length (ElE.fn (eC.els (q2g (λa b=>q4o a b) (eC.lst (q1o cs xs).snd.snd.snd.snd.length (eC.els (q1o cs xs).snd.snd.snd.snd))))).at) ()>=(0:Int))=false->(q1o cs xs).snd.snd.snd.snd.length<=(q2g (λa b=>q4o a b) (eC.lst (q1o cs xs).snd.snd.snd.snd.length (eC.els (q1o cs xs).snd.snd.snd.snd))).length/\∀(e:Nat),e<(q1o cs xs).snd.snd.snd.snd.length->eC.Ok ((ElE.fn (eC.els (q2g (λa b=>q4o a b) (eC.lst (q1o cs xs).snd.snd.snd.snd.length (eC.els (q1o cs xs).snd.snd.snd.snd))))).at e))))
theorem za5(fn:DA.T aLC->Dv.T dLCE)(pre:DA.T aLC->List Prop)(h:∀cs g,DA.bd aLC g->(∀p∈pre g,p)->qbj cs g/\quk cs g=fn g):q09 Tryz.prog 29 aLC dLCE fn pre:=qbe (Γ:=(MTab.gamz qz4 [] [])) (Λ:=z2e) (MTab.okz qz4 [] []) qp6 100 default (λcs g=>qbj cs g) (λcs g=>quk cs g) (λcs g=>by kernel_rfl) (λcs g=>by kernel_rfl) h
def mkC(k:Ky)(n:Int):q00:=⟨k.1,k.2,n⟩
theorem qgn(k:Ky)(n:Int):keyC (mkC k n)=k:=rfl
theorem qu8(k:Ky)(n:Int):(mkC k n).n=n:=rfl
theorem extC(a b:q00)(h1:keyC a=keyC b)(h2:a.n=b.n):a=b:=by
 obtain⟨p,t,n⟩:=a;obtain⟨p',t',n'⟩:=b;have h1:(p,t)=(p',t'):=h1;cases h1;cases h2;rfl
def totC(xs:List q00):List q00:=totK keyC q00.n mkC lexK xs
abbrev sumC(xs:List q00)(k:Ky):Int:=sumK keyC q00.n xs k
theorem qtd(xs:List q00)(y:q00):y∈totC xs↔(∃x∈xs,keyC x=keyC y)/\y.n=sumC xs (keyC y):=z7j keyC q00.n toK qgn qu8 extC xs y
theorem qar(xs:List q00):Srt keyC lexK (totC xs):=z7i keyC q00.n toK qgn qu8 xs
def netC(xs:List q00):List q00×Int:=bif xs.any tBad then([],10)else bif xs.any cBad then([],150)else bif (totC xs).any cBad then([],150)else((totC xs).filter (λv=>v.n !=0),0)
theorem qrh(n:Int):q9y n=true↔-1099511627776<=n/\n<=1099511627776:=by
 unfold q9y;simp
theorem wrS{x:Int}(h:-9223372036854775808<=x/\x<=9223372036854775807):IntKind.i64.wrap x=x:=by
 have:=IntKind.wrap_i64 x;omega
theorem z6x:∀(xs:List q00)(s k:Int)(t:Ky),-(1099511627776*k)<=s->s<=1099511627776*k->0<=k->k+xs.length<=1000000->(∀x∈xs,cBad x=false)->(xs.filter λx=>decide (keyC x=t)).foldl (λb x=>addW b x.n) s=s+sumC xs t
 | [],s,k,t,_,_,_,_,_=>by simp[sumK]
 |x::xs,s,k,t,h1,h2,h0,hk,hx=>by
  have hxk:k+(xs.length:Int)+1<=1000000:=by simp at hk;omega
  have hb:=hx x (List.mem_cons_self ..);unfold cBad at hb;have hw:=(qrh x.n).1 (by simpa using hb);by_cases ht:keyC x=t
  .have e:addW s x.n=s+x.n:=by
    unfold addW;exact wrS (by omega)
   rw[List.filter_cons,if_pos (by simpa using ht),List.foldl_cons,e,z6x xs (s+x.n) (k+1) t (by omega) (by omega) (by omega) (by omega) λy hy=>hx y (List.mem_cons_of_mem _ hy)];simp only[sumC,sumK,ht,if_true];omega
  .rw[List.filter_cons,if_neg (by simpa using ht),z6x xs s k t h1 h2 h0 (by omega) λy hy=>hx y (List.mem_cons_of_mem _ hy)];simp only[sumC,sumK,ht,if_false];omega
theorem zqi{xs:List q00}(h:xs.length<=KS)(hx:xs.any cBad=false)(t:Ky):accK keyC q00.n addW 0 xs t=sumC xs t:=by
 have:=z6x xs 0 0 t (by omega) (by omega) (by omega) (by unfold KS at h;omega) λx hx'=>by
  have:=List.any_eq_false.1 hx x hx';simpa using this
 rw[Int.zero_add]at this;exact this
def mapC(xs:List q00):List MK×Nat:=xs.foldl q5u ([],0)
theorem qrg(xs:List q00):MapOf keyC q00.n addW 0 xs (mapC xs):=z1l keyC q00.n addW 0 dK xs
theorem qum(xs:List q00):(mapC xs).1.length<=xs.length:=by
 have:=z1i keyC q00.n addW 0 dK xs ([],0);have h0:(([],0):List MK×Nat).1.length=0:=rfl;rw[h0,Nat.zero_add]at this;exact this
abbrev cfC:q00->q00->Int:=λa b=>q4o a b
def outC(l:List MK):List q00:=(l.filter λe=>e.2.1 !=(0:Int)).map entC
theorem quc:∀(l:List MK)(b:List q00),qb3 0 qg6 l b=(.exit 0,b++outC l)
 | [],b=>by simp[qb3,outC]
 |e::l,b=>by
  show qb3 0 qg6 l (bif e.2.1 !=(0:Int)then b++[entC e]else b)=_;rw[quc l];unfold outC;rw[List.filter_cons];cases h:e.2.1 !=(0:Int)with
  |true=>simp
  |false=>simp
theorem z99{xs:List q00}(h:xs.length<=KS)(hx:xs.any cBad=false){l:List MK}(hl:l.Perm (mapC xs).1):
  q2g cfC (outC l)=(totC xs).filter (λv=>v.n !=0)/\Anti cfC (outC l):=by
 obtain⟨hb,hk,h1,h2⟩:=qrg xs;have hkd:l.Pairwise λa b=>a.1≠b.1:=(List.Perm.pairwise_iff (λh=>Ne.symm h) hl).2 hk;have hkm:(outC l).Pairwise λa b=>keyC a≠keyC b:=List.pairwise_map.2 ((hkd.sublist List.filter_sublist).imp λ{a b}hab=>hab);have hv:∀e∈l,e.2.1=sumC xs e.1:=λe he=>by rw[h2 e (hl.mem_iff.1 he),zqi h hx]
 refine⟨q58 keyC q00.n lexK toK extC ?_ ?_ λy=>?_,λx hxm y hym k1 k2=>?_⟩
 .have hs:=q5y cfC swoC (outC l);have hd:(q2g cfC (outC l)).Pairwise λa b=>keyC a≠keyC b:=(List.Perm.pairwise_iff (λh=>Ne.symm h) (q2b cfC _)).2 hkm
  exact(hs.and hd).imp λ{a b}hab=>Classical.byContradiction λhn=>by
   have h3:=hab.1;simp only[cfC,qai]at h3;exact h3 (toK.lt_or hab.2 hn)
 .exact(qar xs).sublist List.filter_sublist
 .rw[(q2b cfC _).mem_iff,outC,List.mem_map,List.mem_filter,qtd];constructor
  .rintro⟨e,he,rfl⟩;obtain⟨he,hn⟩:=List.mem_filter.1 he;have hn:e.2.1≠0:=by simpa using hn
   refine⟨⟨(h1 e.1).1 ⟨e,hl.mem_iff.1 he,rfl⟩,hv e he⟩,?_⟩;show(e.2.1 !=0)=true;simpa using hn
  .rintro⟨⟨q1,q2⟩,q3⟩;have q3:y.n≠0:=by simpa using q3
   obtain⟨e,he,het⟩:=(h1 (keyC y)).2 q1;have hv':=hv e (hl.mem_iff.2 he);rw[het,<-q2]at hv';refine⟨e,List.mem_filter.2 ⟨hl.mem_iff.2 he,by rw[hv'];simpa using q3⟩,extC _ _ het hv'⟩
 .simp only[cfC,qai]at k1 k2;have ht:keyC x=keyC y:=toK.anti _ _ k1 k2;obtain⟨a,ha,rfl⟩:=List.mem_map.1 hxm;obtain⟨b,hb',rfl⟩:=List.mem_map.1 hym;have ht:a.1=b.1:=ht;refine extC _ _ ht ?_;show a.2.1=b.2.1;rw[hv a (List.mem_filter.1 ha).1,hv b (List.mem_filter.1 hb').1,ht]
theorem zbu(xs:List q00):((totC xs).filter λv=>v.n !=0).any cBad=(totC xs).any cBad:=by
 rw[Bool.eq_iff_iff,List.any_eq_true,List.any_eq_true];constructor
 .rintro⟨v,hv,hb⟩;exact⟨v,(List.mem_filter.1 hv).1,hb⟩
 .rintro⟨v,hv,hb⟩;refine⟨v,List.mem_filter.2 ⟨hv,?_⟩,hb⟩;cases h:v.n !=0 with
  |true=>rfl
  |false=>
   have h:v.n=0:=by simpa using h
   unfold cBad at hb;rw[h]at hb;cases hb
end
end Go.Proofs.YthnojkbkojpadaaGreat
