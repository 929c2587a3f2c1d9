/- Chapter 27: the reader's text; its list's loop; nodes written. Printed by treegen.py. -/
import Derived.Test.YtapdglacmebbaaaDoorZG0932e2b0
import Derived.Test.YtapdglacmebbaaaDoorZG0781ad55
import Derived.Test.YtapdglacmebbaaaDoorZG08463c26
set_option maxRecDepth 100000
set_option linter.unusedVariables false
set_option linter.unusedSimpArgs false
set_option linter.constructorNameAsVariable false
set_option linter.all false

namespace Go.Proofs.YtapdglacmebbaaaDoor
noncomputable section
open Go.RowKit Go.Sx
abbrev dBBo:Dv (ByteArray×Bool):=.tup (.cons dStr (.one dBool))
theorem puBBo(r:ByteArray×Bool):Pu (dBBo.enc r):=pu_tup (q26 (pu_v _) (q26 (pu_v _) q8m))
def q2d(z:Bool)(s:BA):Ex×
 rt_G:=
 loopF (λg=>rt_R g.fst g.snd.fst g.snd.snd.fst g.snd.snd.snd.fst g.snd.snd.snd.snd) rt_M ((),z,s,[],ByteArray.mk #[])
def rdt_F(z:Bool)(s:BA):TA.T taR×TR.T (TR.pure dStr):=
 bif decide (s=ByteArray.mk #[(45:UInt8)])then(z,ByteArray.mk #[])
 else bif exB Ex.ret (q2d z s).fst then((q2d z s).snd.snd.fst,(q2d z s).snd.snd.snd.snd.snd)else(!decide (textZ (strOf (intsOf IntKind.u8 (q2d z s).snd.snd.snd.snd.fst.length (e8u.els (q2d z s).snd.snd.snd.snd.fst)))=s)||(q2d z s).snd.snd.fst,strOf (intsOf IntKind.u8 (q2d z s).snd.snd.snd.snd.fst.length (e8u.els (q2d z s).snd.snd.snd.snd.fst)))
def rdt_side(z:Bool)(s:BA):Prop:=
 decide (s=ByteArray.mk #[(45:UInt8)])=false->rt_P s []/\(exB Ex.ret (q2d z s).fst=false->((q2d z s).snd.snd.snd.snd.fst.length<=(q2d z s).snd.snd.snd.snd.fst.length/\∀(e:Nat),e<(q2d z s).snd.snd.snd.snd.fst.length->((ElE.fn (e8u.els (q2d z s).snd.snd.snd.snd.fst)).at e).all SV.one=true)/\(∀(e:Nat),e<(q2d z s).snd.snd.snd.snd.fst.length->(Sx.intOf IntKind.u8 ((ElE.fn (e8u.els (q2d z s).snd.snd.snd.snd.fst)).at e)).isSome=true)/\(strOf (intsOf IntKind.u8 (q2d z s).snd.snd.snd.snd.fst.length (e8u.els (q2d z s).snd.snd.snd.snd.fst))).size<=KT/\((q2d z s).snd.snd.snd.snd.fst.length<=(q2d z s).snd.snd.snd.snd.fst.length/\∀(e:Nat),e<(q2d z s).snd.snd.snd.snd.fst.length->((ElE.fn (e8u.els (q2d z s).snd.snd.snd.snd.fst)).at e).all SV.one=true)/\∀(e:Nat),e<(q2d z s).snd.snd.snd.snd.fst.length->(Sx.intOf IntKind.u8 ((ElE.fn (e8u.els (q2d z s).snd.snd.snd.snd.fst)).at e)).isSome=true)
theorem rdt_okS(pre:TA.T taR->DA.T aB->List Prop)(h:∀k g,DA.bd aB g->(∀p∈pre k g,p)->rdt_side k g):FnT Tryd.prog 62 taR aB (TR.pure dStr) (λk g=>rdt_F k g) pre:=q2q (Γ:=(MTab.gamz tabN19 [] [])) (Λ:=lamN19) (MTab.okz tabN19 [] []) lamN19_ok 100 default (λk g=>rdt_side k g) (λk g=>by kernel_rfl) (λk g=>by kernel_rfl) h
def q2g(s:BA):Ex×
 ru_G:=
 loopF (λg=>ru_R g.fst g.snd.fst g.snd.snd.fst g.snd.snd.snd.fst g.snd.snd.snd.snd) ru_M (s,(0:Int),[],ByteArray.mk #[],false)
def unt_F(s:BA):Dv.T dBBo:=
 bif decide (s=ByteArray.mk #[(45:UInt8)])then(ByteArray.mk #[],true)
 else bif exB Ex.ret (q2g s).fst then(q2g s).snd.snd.snd.snd else(strOf (intsOf IntKind.u8 (q2g s).snd.snd.snd.fst.length (e8u.els (q2g s).snd.snd.snd.fst)),decide (textZ (strOf (intsOf IntKind.u8 (q2g s).snd.snd.snd.fst.length (e8u.els (q2g s).snd.snd.snd.fst)))=(q2g s).snd.fst))
def qbi(s:BA):Prop:=
 decide (s=ByteArray.mk #[(45:UInt8)])=false->ru_P s (0:Int) []/\(exB Ex.ret (q2g s).fst=false->((q2g s).snd.snd.snd.fst.length<=(q2g s).snd.snd.snd.fst.length/\∀(e:Nat),e<(q2g s).snd.snd.snd.fst.length->((ElE.fn (e8u.els (q2g s).snd.snd.snd.fst)).at e).all SV.one=true)/\(∀(e:Nat),e<(q2g s).snd.snd.snd.fst.length->(Sx.intOf IntKind.u8 ((ElE.fn (e8u.els (q2g s).snd.snd.snd.fst)).at e)).isSome=true)/\((q2g s).snd.snd.snd.fst.length<=(q2g s).snd.snd.snd.fst.length/\∀(e:Nat),e<(q2g s).snd.snd.snd.fst.length->((ElE.fn (e8u.els (q2g s).snd.snd.snd.fst)).at e).all SV.one=true)/\(∀(e:Nat),e<(q2g s).snd.snd.snd.fst.length->(Sx.intOf IntKind.u8 ((ElE.fn (e8u.els (q2g s).snd.snd.snd.fst)).at e)).isSome=true)/\(strOf (intsOf IntKind.u8 (q2g s).snd.snd.snd.fst.length (e8u.els (q2g s).snd.snd.snd.fst))).size<=KT)
theorem unt_okS(pre:DA.T aB->List Prop)(h:∀g,DA.bd aB g->(∀p∈pre g,p)->qbi g):FnPure Tryd.prog 35 aB dBBo (λg=>unt_F g) pre:=q05 (Γ:=(MTab.gamz tabN19 [] [])) (Λ:=lamN19) (MTab.okz tabN19 [] []) lamN19_ok 100 default (λg=>qbi g) (λg=>by kernel_rfl) (λg=>by kernel_rfl) h
abbrev rl_G:Type:=Unit×Bool×List BA×Int×List Int×Int
def rl_LP:LP 1 rl_G:=.pair (.fix 1 0 (.p 0 0)) (.pair (.obj 1 0 75 eBool) (.pair (.slot 1 11 dLS) (.pair (.slot 1 12 dI) (.pair (.row 1 5 3 eI) (.slot 1 13 dI)))))
def rl_R(_u:Unit)(z:Bool)(xs:List BA)(n:Int)(o:List Int)(i:Int):Ex×rl_G:=
 bif decide (i<n)then(Ex.normal,(),(numR z (xs.getD i.toNat eStr.dflt)).fst,eStr.ag xs,n,eI.lst (min (o.length+(1:Nat)) o.length) (eI.els o)++List.map (λx=>(numR z (xs.getD i.toNat eStr.dflt)).snd) (List.range (o.length+(1:Nat)-o.length)),IntKind.i64.wrap (i+(1:Int)))
 else(Ex.exit (0:Nat),(),z,eStr.ag xs,n,eI.ag o,i)
def rl_side(_u:Unit)(z:Bool)(xs:List BA)(n:Int)(o:List Int)(i:Int):Prop:=
 (decide (i<n)=true->((0:Int)<=i/\i<(↑xs.length:Int))/\(o.length<=o.length/\True/\o.length+(1:Nat)<=maxLen/\(o.length+(1:Nat))*Tryd.prog.types[(3:Nat)].bytes<=(140737488355328:Nat))/\eStr.okL xs/\o.length+(1:Nat)<=o.length+(1:Nat)/\(∀(e:Nat),e<min (o.length+(1:Nat)) o.length->True)/\∀(e:Nat),e<o.length+(1:Nat)-o.length->True)/\(decide (i<n)=false->eStr.okL xs/\o.length<=o.length/\∀(e:Nat),e<o.length->True)
theorem rl_one:((q00 Tryd.prog 61).filter λc=>Nat.beq (lkey c) 5).length=1:=by kernel_rfl
abbrev rl_GC:Type:=List BA×Int
abbrev rl_GB:Type:=Bool×List Int×Unit
def rl_f(g:rl_G):Int×rl_GC×rl_GB:=(g.2.2.2.2.2,(g.2.2.1,g.2.2.2.1),(g.2.1,g.2.2.2.2.1,g.1))
def rl_g(d:Int×rl_GC×rl_GB):rl_G:=(d.2.2.2.2,d.2.2.1,d.2.1.1,d.2.1.2,d.2.2.2.1,d.1)
abbrev rl_rr(g:rl_G):Ex×rl_G:=rl_R g.1 g.2.1 g.2.2.1 g.2.2.2.1 g.2.2.2.2.1 g.2.2.2.2.2
abbrev rl_ss(g:rl_G):Prop:=rl_side g.1 g.2.1 g.2.2.1 g.2.2.2.1 g.2.2.2.2.1 g.2.2.2.2.2
theorem rl_es(g:rl_G):(rl_rr g).1=.normal\/(rl_rr g).1∈([.exit 0]:List Ex):=by
 unfold rl_rr rl_R
 repeat' (first|(left;rfl)|(right;simp only[cond_true,cond_false];simp;done)|(rw[Bool.cond_eq_ite];split))
abbrev rl_C(Inv:rl_G->List Prop)(m:rl_G->Nat):LCon:=loopR [.exit 0] (loopBody Tryd.prog 61 5) rl_LP [] 25 Inv rl_rr m
theorem rl_loop(Inv:rl_G->List Prop)(m:rl_G->Nat)(hs:∀g,allP (Inv g)->rl_ss g)(hg:Goes rl_rr m λg=>allP (Inv g)):∀b∈q00 Tryd.prog 61,lkey b=5->q04 Tryd.prog b (rl_C Inv m).g:=q0h (Γ:=(MTab.gamz tabN19 [] [])) (Λ:=lamN19) (MTab.okz tabN19 [] []) lamN19_ok 100 61 5 25 rl_LP [] Inv rl_rr rl_ss m default [.exit 0] rl_one (λrd T B HL HB ds g=>by kernel_rfl) (λrd T B HL HB ds g=>by kernel_rfl) hs hg rl_es
open Go.RowKit Go.Sx Go.Lp
theorem qa6:∀(n:Nat)(l b b':List Int),q0y n l b=some b'->b'.length<=b.length+l.length
 |0,l,b,b',h=>by
  cases h;omega
 |n+1,[],b,b',h=>by
  cases h;omega
 |n+1,c::r,b,b',h=>by
  unfold q0y at h;split at h
  .match r,h with
   |x::y::r',h=>
    simp only at h;split at h
    .cases h
    .have:=qa6 n r' _ b' h;simp only[List.length_append,List.length_cons,List.length_nil]at this ⊢;omega
   | [_],h=>cases h
   | [],h=>cases h
  .have:=qa6 n r _ b' h;simp only[List.length_append,List.length_cons,List.length_nil]at this ⊢;omega
def rdR{α:Type}(z:Bool)(r:α×Bool):Bool×α:=(bif r.2 then z else true,r.1)
theorem qan(s:BA):(q0v s).1.size<=s.size:=by
 unfold q0v;cases decide (s=bM)with
 |true=>exact Nat.zero_le _
 |false=>
  simp only[cond_false];cases hu:q0y s.size (bts s) []with
  |none=>exact Nat.zero_le _
  |some b=>
   have:=qa6 _ _ _ _ hu;rw[q06]at this;show(strOf b).size<=_;rw[q1b];simpa using this
theorem KT_KB{s:BA}(hs:s.size<=KT):s.size<=KB:=by unfold KT at hs;unfold KB;omega
theorem rdt_eq(z:Bool)(s:BA)(hs:s.size<=KT):rdt_side z s/\rdt_F z s=rdR z (q0v s):=by
 have hP:rt_P s []:=by
  show([]:List Int).length+s.size<=KB;have:=KT_KB hs;simpa using this
 have hr:=rt_run z s [] bE hP;have hq:q2d z s=loopF rt_RR rt_M ((),z,s,[],bE):=rfl;rw[<-hq]at hr;unfold rdt_side rdt_F;generalize q2d z s=q at hr;have hz:=qan s;unfold q0v at hz ⊢;cases hm:decide (s=ByteArray.mk #[(45:UInt8)])with
 |true=>exact⟨λh=>(by cases h),rfl⟩
 |false=>
  rw[hm,cond_false]at hz;simp only[cond_false];rcases hr with ⟨b',h1,h2,h3,h4,h5⟩|⟨h1,h2,h3,h4⟩
  .rw[h1]at hz ⊢;simp only at hz ⊢;rw[h2,h3,h4,q7z];refine⟨λ_=>⟨hP,λ_=>⟨⟨Nat.le_refl _,λe _=>e8u.one_els _ e⟩,λe _=>rfl,by omega,⟨Nat.le_refl _,λe _=>e8u.one_els _ e⟩,λe _=>rfl⟩⟩,?_⟩;show(bif false then _ else _)=_;unfold rdR;simp only[cond_false];cases decide (textZ (strOf b')=s)<;>rfl
  .rw[h1,h2,h3,h4];exact⟨λ_=>⟨hP,λh=>(by cases h)⟩,rfl⟩
theorem rdt_c:FnT Tryd.prog 62 taR aB (TR.pure dStr) (λz s=>rdR z (q0v s)) (λ_ s=>[s.size<=KT]):=
 q5g (rdt_okS (λ_ s=>[s.size<=KT]) λz s _ hp=>(rdt_eq z s (hp _ (List.mem_cons_self ..))).1) (λ_ _ h=>h) λz s _ hp=>(rdt_eq z s (hp _ (List.mem_cons_self ..))).2
theorem unt_eq(s:BA)(hs:s.size<=KT):qbi s/\unt_F s=q0v s:=by
 have hP:ru_P s 0 []:=⟨KT_KB hs,Int.le_refl _,by omega,Int.le_refl _⟩;have hr:=ru_run s 0 [] bE false hP;have hq:q2g s=loopF ru_RR ru_M (s,0,[],bE,false):=rfl;rw[<-hq]at hr;rw[show s.size-(0:Int).toNat=s.size by rfl,show(bts s).drop (0:Int).toNat=bts s by rfl]at hr;unfold qbi unt_F;generalize q2g s=q at hr;have hz:=qan s;unfold q0v at hz ⊢;cases hm:decide (s=ByteArray.mk #[(45:UInt8)])with
 |true=>exact⟨λh=>(by cases h),rfl⟩
 |false=>
  rw[hm,cond_false]at hz;simp only[cond_false];rcases hr with ⟨b',h1,h2,h3,h4,h5⟩|⟨h1,h2,h3⟩
  .rw[h1]at hz ⊢;simp only at hz ⊢;rw[h2,h3,h4,q7z];exact⟨λ_=>⟨hP,λ_=>⟨⟨Nat.le_refl _,λe _=>e8u.one_els _ e⟩,λe _=>rfl,⟨Nat.le_refl _,λe _=>e8u.one_els _ e⟩,λe _=>rfl,by omega⟩⟩,rfl⟩
  .rw[h1,h2,h3];exact⟨λ_=>⟨hP,λh=>(by cases h)⟩,rfl⟩
theorem unt_ok:FnPure Tryd.prog 35 aB dBBo q0v (λs=>[s.size<=KT]):=
 q0d (unt_okS _ λr _ hp=>(unt_eq r (hp _ (List.mem_cons_self ..))).1) λr _ hp=>(unt_eq r (hp _ (List.mem_cons_self ..))).2
theorem by3(h:3<Tryd.prog.types.size):(Tryd.prog.types[(3:Nat)]'h).bytes=8:=by kernel_rfl
def num0(w:BA):Int:=bif (q07 w).2 then(q07 w).1 else 0
theorem numR_eq(z:Bool)(w:BA):numR z w=(bif (q07 w).2 then z else true,num0 w):=by
 unfold numR num0;cases(q07 w).2<;>rfl
theorem q2i(w:BA):i64 (num0 w):=by
 unfold num0;cases(q07 w).2 with
 |true=>exact q5n w
 |false=>
  show i64 0;exact⟨by decide,by decide⟩
abbrev rl_xs(c:rl_GC):List BA:=c.1
abbrev rl_lim(c:rl_GC):Int:=c.2
def rl_S(_:rl_GC)(b:rl_GB)(_:Int)(a:BA):Ex×rl_GB:=(.normal,((numR b.1 a).1,b.2.1++[(numR b.1 a).2],()))
def rl_K(c:rl_GC)(b:rl_GB)(i:Int):Prop:=(b.2.1.length:Int)<=i/\c.1.length<=KS+1
abbrev rl_I(g:rl_G):List Prop:=ixI rl_lim rl_xs rl_K (rl_f g)
abbrev rl_M(g:rl_G):Nat:=ixM rl_lim (rl_f g)
theorem rl_P:ixP rl_S rl_xs rl_K:=λc b i a h _ _=>⟨by
 have:=h.1;show(((b.2.1++[(numR b.1 a).2]).length:Nat):Int)<=_;rw[List.length_append];simp only[List.length_cons,List.length_nil];omega,h.2⟩
abbrev rl_RR(g:rl_G):Ex×rl_G:=rl_R g.1 g.2.1 g.2.2.1 g.2.2.2.1 g.2.2.2.2.1 g.2.2.2.2.2
theorem rl_RF(d:Int×rl_GC×rl_GB):rl_RR (rl_g d)=((ixF 0 rl_lim rl_xs eStr.dflt rl_S d).1,rl_g (ixF 0 rl_lim rl_xs eStr.dflt rl_S d).2):=by
 obtain⟨i,⟨xs,n⟩,⟨z,o,⟨⟩⟩⟩:=d;show rl_R () z xs n o i=_;unfold rl_R ixF rl_S;simp only[El.ag_eq,q2s];cases decide (i<n)<;>rfl
theorem rl_ok:∀b∈q00 Tryd.prog 61,lkey b=5->q04 Tryd.prog b (rl_C rl_I rl_M).g:=by
 refine rl_loop rl_I rl_M (λg hi=>?_) (q09 (φ:=rl_f) (ψ:=rl_g) (λ_=>rfl) (λ_=>rfl) (λd _=>rl_RF d) rl_P);obtain⟨⟨⟩,z,xs,n,o,i⟩:=g;obtain⟨h1,_,h3,h4,h5,h6⟩:=hi _ (List.mem_cons_self ..);have h1:n=(xs.length:Int):=h1;have h3:0<=i:=h3;have h4:i<=(xs.length:Int):=h4;have h5:(o.length:Int)<=i:=h5;have h6:xs.length<=KS+1:=h6;unfold KS at h6;show rl_side () z xs n o i;unfold rl_side;simp only[El.okL_eq,by3,Nat.le_refl,implies_true,true_and,and_true];intro hlt;have hlt:=of_decide_eq_true hlt;exact⟨⟨h3,by omega⟩,by unfold maxLen;omega,by omega⟩
theorem rl_scan(c:rl_GC):∀(l:List BA)(i:Int)(z:Bool)(o:List Int),scan 0 (rl_S c) i l (z,o,())=(.exit 0,i+l.length,(bif l.all (λw=>(q07 w).2)then z else true,o++l.map num0,()))
 | [],i,z,o=>by simp[scan]
 |a::l,i,z,o=>by
  show scan 0 (rl_S c) (i+1) l ((numR z a).1,o++[(numR z a).2],())=_;rw[rl_scan c l,numR_eq,List.length_cons,List.all_cons,List.map_cons,List.append_assoc,show i+1+(l.length:Int)=i+((l.length+1:Nat):Int) by omega];cases(q07 a).2<;>cases l.all (λw=>(q07 w).2)<;>rfl
theorem rl_run(z:Bool)(xs:List BA)(hx:xs.length<=KS+1):loopF rl_RR rl_M ((),z,xs,(xs.length:Int),[],0)=(.exit 0,(),(bif xs.all (λw=>(q07 w).2)then z else true),xs,(xs.length:Int),xs.map num0,(xs.length:Int)):=by
 have h':=q0e (φ:=rl_f) (ψ:=rl_g) (λ_=>rfl) (λ_=>rfl) (λd _=>rl_RF d) rl_P (xs,(xs.length:Int)) (z,[],()) rfl (by show xs.length<=maxLen;unfold KS at hx;unfold maxLen;omega) ⟨Int.le_refl _,hx⟩;show loopF rl_RR rl_M (rl_g (0,(xs,(xs.length:Int)),(z,[],())))=_;rw[h'];show((scan 0 (rl_S (xs,(xs.length:Int))) 0 xs (z,[],())).1,rl_g ((scan 0 (rl_S (xs,(xs.length:Int))) 0 xs (z,[],())).2.1,_,(scan 0 (rl_S (xs,(xs.length:Int))) 0 xs (z,[],())).2.2))=_;rw[rl_scan,Int.zero_add,List.nil_append];rfl
def listV(s:BA):List Int:=bif decide (s=bM)then []else(splS 44 s).map num0
theorem listV_i64(s:BA):∀x∈listV s,i64 x:=by
 unfold listV;cases decide (s=bM)with
 |true=>intro x hx;cases hx
 |false=>
  intro x hx;obtain⟨w,_,rfl⟩:=List.mem_map.1 hx;exact q2i w
theorem listV_ok{s:BA}(h:(listZ s).2=true):listV s=(listZ s).1:=by
 unfold listZ listV at *;cases hm:decide (s=bM)with
 |true=>rfl
 |false=>
  rw[hm]at h;simp only[cond_false]at h ⊢;rw[List.all_eq_true]at h;refine List.map_congr_left λw hw=>?_;unfold num0;rw[h w hw];rfl
def listR(z:Bool)(s:BA):Bool×List Int:=(bif (listZ s).2 then z else true,listV s)
def ltN21:LTab Tryd.prog:=ltN19.cons 61 5 (rl_C rl_I rl_M) rl_ok
abbrev q6u:Lam:=ltN21.lam
theorem q2o:∀f k L,q6u f k=some L->∀b∈q00 Tryd.prog f,lkey b=k->q04 Tryd.prog b L.g:=ltN21.ok
def tabN21:MTab Tryd.prog:=(tabN19.consM 62 (bconT taR aB (TR.pure dStr) (λz s=>rdR z (q0v s)) (λ_ s=>[s.size<=KT])) (q48 rdt_c)).cons 35 (pconP aB dBBo q0v (λs=>[s.size<=KT])) (q0o unt_ok puBBo)
abbrev aLSBB:DA (List ByteArray×ByteArray):=.cons (.listB eStr) (.one dStr)
theorem sjoi_okB:FnPure Tryd.prog 23 aLSBB dStr joinC (λg=>[g.1.length<=140737488355328,(joinC g).size<=140737488355328]):=sjoi_ok
def q5e:MTab Tryd.prog:=tabN21.cons 23 (pconP aLSBB dStr joinC (λg=>[g.1.length<=140737488355328,(joinC g).size<=140737488355328])) (q0o sjoi_okB puS)
abbrev aD:DA Nd:=.one dD
abbrev aV:DA Mv:=.one dV
abbrev dSE:Dv (ByteArray×Int):=.tup (.cons dStr (.one dI))
theorem puSE(r:ByteArray×Int):Pu (dSE.enc r):=pu_tup (q26 (pu_v _) (q26 (pu_v _) q8m))
def rls_q1(z:Bool)(s:BA):Ex×
 rl_G:=
 loopF (λg=>rl_R g.fst g.snd.fst g.snd.snd.fst g.snd.snd.snd.fst g.snd.snd.snd.snd.fst g.snd.snd.snd.snd.snd) rl_M ((),z,eStr.ag (q1l (s,ByteArray.mk #[(44:UInt8)])),(↑(q1l (s,ByteArray.mk #[(44:UInt8)])).length:Int),[],(0:Int))
def rls_F(z:Bool)(s:BA):TA.T taR×TR.T (TR.ct (CT.fz 3 eI) rfl):=
 bif decide (s=ByteArray.mk #[(45:UInt8)])then(z,[])
 else((rls_q1 z s).snd.snd.fst,eI.ag (rls_q1 z s).snd.snd.snd.snd.snd.fst)
def rls_side(z:Bool)(s:BA):Prop:=
 decide (s=ByteArray.mk #[(45:UInt8)])=false->ByteArray.size s<=KS/\(1:Nat)<=(1:Nat)/\eStr.okL (q1l (s,ByteArray.mk #[(44:UInt8)]))/\Lp.ixJ rl_lim rl_xs rl_K (rl_f ((),z,eStr.ag (q1l (s,ByteArray.mk #[(44:UInt8)])),(↑(q1l (s,ByteArray.mk #[(44:UInt8)])).length:Int),[],(0:Int)))/\(rls_q1 z s).snd.snd.snd.snd.snd.fst.length<=(rls_q1 z s).snd.snd.snd.snd.snd.fst.length/\∀(e:Nat),e<(rls_q1 z s).snd.snd.snd.snd.snd.fst.length->True
theorem rls_okS(pre:TA.T taR->DA.T aB->List Prop)(h:∀k g,DA.bd aB g->(∀p∈pre k g,p)->rls_side k g):FnT Tryd.prog 61 taR aB (TR.ct (CT.fz 3 eI) rfl) (λk g=>rls_F k g) pre:=q2q (Γ:=(MTab.gamz q5e [] [])) (Λ:=q6u) (MTab.okz q5e [] []) q2o 100 default (λk g=>rls_side k g) (λk g=>by kernel_rfl) (λk g=>by kernel_rfl) h
def nod_F(n:Nd):Dv.T dStr:=
 joinC ([numS n.id,numS n.kind,insS (eI.ag n.ins),numS n.fn.kind,numS n.fn.a,textZ n.fn.s,textZ n.name,numS n.cap,numS n.d],ByteArray.mk #[(59:UInt8)])
def nod_side(n:Nd):Prop:=
 i64 n.id/\i64 n.kind/\eI.okL n.ins/\(eI.ag n.ins).length<=KL/\(∀(x:Int),x∈eI.ag n.ins->i64 x)/\i64 n.fn.kind/\i64 n.fn.a/\ByteArray.size n.fn.s<=KT/\ByteArray.size n.name<=KT/\i64 n.cap/\i64 n.d/\(9:Nat)<=(140737488355328:Nat)/\(joinC ([numS n.id,numS n.kind,insS (eI.ag n.ins),numS n.fn.kind,numS n.fn.a,textZ n.fn.s,textZ n.name,numS n.cap,numS n.d],ByteArray.mk #[(59:UInt8)])).size<=(140737488355328:Nat)
theorem nod_okS(pre:DA.T aD->List Prop)(h:∀g,DA.bd aD g->(∀p∈pre g,p)->nod_side g):FnPure Tryd.prog 28 aD dStr (λg=>nod_F g) pre:=q05 (Γ:=(MTab.gamz q5e [] [])) (Λ:=q6u) (MTab.okz q5e [] []) q2o 100 default (λg=>nod_side g) (λg=>by kernel_rfl) (λg=>by kernel_rfl) h
def mov_F(m:Mv):Dv.T dStr:=
 joinC ([numS m.fr,numS m.to,numS m.kind,numS m.a,numS m.fn.kind,numS m.fn.a,textZ m.fn.s],ByteArray.mk #[(59:UInt8)])
def mov_side(m:Mv):Prop:=
 i64 m.fr/\i64 m.to/\i64 m.kind/\i64 m.a/\i64 m.fn.kind/\i64 m.fn.a/\ByteArray.size m.fn.s<=KT/\(7:Nat)<=(140737488355328:Nat)/\(joinC ([numS m.fr,numS m.to,numS m.kind,numS m.a,numS m.fn.kind,numS m.fn.a,textZ m.fn.s],ByteArray.mk #[(59:UInt8)])).size<=(140737488355328:Nat)
theorem mov_okS(pre:DA.T aV->List Prop)(h:∀g,DA.bd aV g->(∀p∈pre g,p)->mov_side g):FnPure Tryd.prog 48 aV dStr (λg=>mov_F g) pre:=q05 (Γ:=(MTab.gamz q5e [] [])) (Λ:=q6u) (MTab.okz q5e [] []) q2o 100 default (λg=>mov_side g) (λg=>by kernel_rfl) (λg=>by kernel_rfl) h
def ckn_F(n:Nd):Dv.T dI:=
 bif decide ((↑n.ins.length:Int)>(2:Int))||(decide ((↑(ByteArray.size n.fn.s):Int)>(64:Int))||decide ((↑(ByteArray.size n.name):Int)>(64:Int)))then(270:Int)
 else(0:Int)
theorem ckn_ok:FnPure Tryd.prog 16 aD dI (λg=>ckn_F g) (λ_=>[]):=q78 (Γ:=(MTab.gamz q5e [] [])) (Λ:=q6u) (MTab.okz q5e [] []) q2o 100 default (λg=>by kernel_rfl) (λg=>by kernel_rfl)
def rck_F(n:Nd):Dv.T dI:=
 bif decide ((↑n.ins.length:Int)>(2:Int))||(decide ((↑(ByteArray.size n.fn.s):Int)>(64:Int))||decide ((↑(ByteArray.size n.name):Int)>(64:Int)))then(270:Int)
 else(0:Int)
theorem rck_ok:FnPure Tryd.prog 17 aD dI (λg=>rck_F g) (λ_=>[]):=q78 (Γ:=(MTab.gamz q5e [] [])) (Λ:=q6u) (MTab.okz q5e [] []) q2o 100 default (λg=>by kernel_rfl) (λg=>by kernel_rfl)
theorem rls_eq(z:Bool)(s:BA)(hs:s.size<=KS):rls_side z s/\rls_F z s=listR z s:=by
 have hlen:=q59 44 s
 have hq:rls_q1 z s=(.exit 0,(),(bif (splS 44 s).all (λw=>(q07 w).2)then z else true),splS 44 s,((splS 44 s).length:Int),(splS 44 s).map num0,((splS 44 s).length:Int)):=by
  unfold rls_q1;rw[El.ag_eq,q3u];exact rl_run z (splS 44 s) (by omega)
 unfold rls_side rls_F listR listV listZ;rw[hq,q3u];simp only[El.ag_eq,El.okL_eq];have hKs:=hs;unfold KS at hs;refine⟨λ_=>⟨hKs,Nat.le_refl _,trivial,ixJ0 (lim:=rl_lim) (xs:=rl_xs) (P:=rl_K) (c:=(splS 44 s,((splS 44 s).length:Int))) (b:=(z,[],())) rfl (by show(splS 44 s).length<=maxLen;unfold maxLen;omega) ⟨Int.le_refl _,by show(splS 44 s).length<=KS+1;omega⟩,Nat.le_refl _,λ_ _=>trivial⟩,?_⟩;cases decide (s=ByteArray.mk #[(45:UInt8)])<;>rfl
theorem rls_c:FnT Tryd.prog 61 taR aB (TR.ct (CT.fz 3 eI) rfl) (λz s=>listR z s) (λ_ s=>[s.size<=KS]):=
 q5g (rls_okS (λ_ s=>[s.size<=KS]) λz s _ hp=>(rls_eq z s (hp _ (List.mem_cons_self ..))).1) (λ_ _ h=>h) λz s _ hp=>(rls_eq z s (hp _ (List.mem_cons_self ..))).2
def nodeP(n:Nd):List BA:=[numS n.id,numS n.kind,insS n.ins,numS n.fn.kind,numS n.fn.a,textZ n.fn.s,textZ n.name,numS n.cap,numS n.d]
def nodeS(n:Nd):BA:=joiS 59 (nodeP n)
def moveP(m:Mv):List BA:=[numS m.fr,numS m.to,numS m.kind,numS m.a,numS m.fn.kind,numS m.fn.a,textZ m.fn.s]
def moveS(m:Mv):BA:=joiS 59 (moveP m)
def wfD(n:Nd):Prop:=i64 n.id/\i64 n.kind/\(∀x∈n.ins,i64 x)/\i64 n.fn.kind/\i64 n.fn.a/\i64 n.cap/\i64 n.d
def szD(n:Nd):Prop:=n.ins.length<=KL/\n.fn.s.size<=KT/\n.name.size<=KT
def wfV(m:Mv):Prop:=i64 m.fr/\i64 m.to/\i64 m.kind/\i64 m.a/\i64 m.fn.kind/\i64 m.fn.a
def szV(m:Mv):Prop:=m.fn.s.size<=KT
theorem qad{n:Nd}(h:wfD n)(hz:szD n):(nodeS n).size<=21*n.ins.length+3*n.fn.s.size+3*n.name.size+200:=by
 obtain⟨h1,h2,h3,h4,h5,h6,h7⟩:=h;have:=q4f 59 (nodeP n);unfold nodeS
 have e:sumS (nodeP n)=(numS n.id).size+1+((numS n.kind).size+1+((insS n.ins).size+1+((numS n.fn.kind).size+1+((numS n.fn.a).size+1+((textZ n.fn.s).size+1+((textZ n.name).size+1+((numS n.cap).size+1+((numS n.d).size+1+0)))))))):=by
  unfold nodeP;simp only[sumS_cons,sumS_nil]
 have:=q0l h1;have:=q0l h2;have:=insS_size n.ins h3;have:=q0l h4;have:=q0l h5;have:=q5h n.fn.s;have:=q5h n.name;have:=q0l h6;have:=q0l h7;omega
theorem nod_eq(n:Nd)(h:wfD n)(hz:szD n):nod_side n/\nod_F n=nodeS n:=by
 have hs:=qad h hz;obtain⟨h1,h2,h3,h4,h5,h6,h7⟩:=h;obtain⟨z1,z2,z3⟩:=hz;have e:joinC ([numS n.id,numS n.kind,insS n.ins,numS n.fn.kind,numS n.fn.a,textZ n.fn.s,textZ n.name,numS n.cap,numS n.d],ByteArray.mk #[(59:UInt8)])=nodeS n:=q5w 59 _;unfold nod_side nod_F;simp only[El.ag_eq,El.okL_eq];rw[e];refine⟨⟨h1,h2,trivial,z1,h3,h4,h5,z2,z3,h6,h7,by omega,?_⟩,rfl⟩;unfold KL at z1;unfold KT at z2 z3;omega
theorem nod_ok:FnPure Tryd.prog 28 aD dStr nodeS (λn=>[wfD n,szD n]):=
 q0d (nod_okS _ λr _ hp=>(nod_eq r (hp _ (List.mem_cons_self ..)) (hp _ (List.mem_cons_of_mem _ (List.mem_cons_self ..)))).1) λr _ hp=>(nod_eq r (hp _ (List.mem_cons_self ..)) (hp _ (List.mem_cons_of_mem _ (List.mem_cons_self ..)))).2
theorem moveS_size{m:Mv}(h:wfV m):(moveS m).size<=3*m.fn.s.size+200:=by
 obtain⟨h1,h2,h3,h4,h5,h6⟩:=h;have:=q4f 59 (moveP m);unfold moveS
 have e:sumS (moveP m)=(numS m.fr).size+1+((numS m.to).size+1+((numS m.kind).size+1+((numS m.a).size+1+((numS m.fn.kind).size+1+((numS m.fn.a).size+1+((textZ m.fn.s).size+1+0)))))):=by
  unfold moveP;simp only[sumS_cons,sumS_nil]
 have:=q0l h1;have:=q0l h2;have:=q0l h3;have:=q0l h4;have:=q0l h5;have:=q0l h6;have:=q5h m.fn.s;omega
theorem mov_eq(m:Mv)(h:wfV m)(hz:szV m):mov_side m/\mov_F m=moveS m:=by
 have hs:=moveS_size h;obtain⟨h1,h2,h3,h4,h5,h6⟩:=h;have e:joinC ([numS m.fr,numS m.to,numS m.kind,numS m.a,numS m.fn.kind,numS m.fn.a,textZ m.fn.s],ByteArray.mk #[(59:UInt8)])=moveS m:=q5w 59 _;unfold mov_side mov_F;rw[e];refine⟨⟨h1,h2,h3,h4,h5,h6,hz,by omega,?_⟩,rfl⟩;unfold szV KT at hz;omega
theorem mov_ok:FnPure Tryd.prog 48 aV dStr moveS (λm=>[wfV m,szV m]):=
 q0d (mov_okS _ λr _ hp=>(mov_eq r (hp _ (List.mem_cons_self ..)) (hp _ (List.mem_cons_of_mem _ (List.mem_cons_self ..)))).1) λr _ hp=>(mov_eq r (hp _ (List.mem_cons_self ..)) (hp _ (List.mem_cons_of_mem _ (List.mem_cons_self ..)))).2
abbrev chkD(n:Nd):Int:=ckn_F n
theorem chkD_sz{n:Nd}(h:chkD n=0):n.ins.length<=2/\n.fn.s.size<=64/\n.name.size<=64:=by
 unfold chkD ckn_F at h;by_cases h1:(n.ins.length:Int)>2
 .rw[decide_eq_true h1]at h;cases h
 by_cases h2:(n.fn.s.size:Int)>64
 .rw[decide_eq_true h2,Bool.true_or,Bool.or_true]at h;cases h
 by_cases h3:(n.name.size:Int)>64
 .rw[decide_eq_true h3,Bool.or_true,Bool.or_true]at h;cases h
 omega
theorem qa3{n:Nd}(h:chkD n=0):szD n:=by
 have:=chkD_sz h;unfold szD KL KT;omega
def q8y:MTab Tryd.prog:=((((tabN21.consM 61 (bconT taR aB (TR.ct (CT.fz 3 eI) rfl) (λz s=>listR z s) (λ_ s=>[s.size<=KS])) (q48 rls_c)).cons 16 (pconP aD dI chkD (λ_=>[])) (q0o ckn_ok puI)).cons 17 (pconP aD dI chkD (λ_=>[])) (q0o rck_ok puI)).cons 28 (pconP aD dStr nodeS (λn=>[wfD n,szD n])) (q0o nod_ok puS)).cons 48 (pconP aV dStr moveS (λm=>[wfV m,szV m])) (q0o mov_ok puS)
def nde_F(n:Nd):Dv.T dSE:=
 bif chkD (Nd.mk n.id n.kind (eI.ag n.ins) n.fn n.name n.cap n.d)!=(0:Int)then(ByteArray.mk #[],chkD (Nd.mk n.id n.kind (eI.ag n.ins) n.fn n.name n.cap n.d))
 else(nodeS (Nd.mk n.id n.kind (eI.ag n.ins) n.fn n.name n.cap n.d),(0:Int))
def nde_side(n:Nd):Prop:=
 eI.okL n.ins/\((chkD (Nd.mk n.id n.kind (eI.ag n.ins) n.fn n.name n.cap n.d)!=(0:Int))=false->eI.okL n.ins/\wfD (Nd.mk n.id n.kind (eI.ag n.ins) n.fn n.name n.cap n.d)/\szD (Nd.mk n.id n.kind (eI.ag n.ins) n.fn n.name n.cap n.d))
theorem nde_okS(pre:DA.T aD->List Prop)(h:∀g,DA.bd aD g->(∀p∈pre g,p)->nde_side g):FnPure Tryd.prog 11 aD dSE (λg=>nde_F g) pre:=q05 (Γ:=(MTab.gamz q8y [] [])) (Λ:=q6u) (MTab.okz q8y [] []) q2o 100 default (λg=>nde_side g) (λg=>by kernel_rfl) (λg=>by kernel_rfl) h
def rnde_F(n:Nd):Dv.T dSE:=
 bif chkD (Nd.mk n.id n.kind (eI.ag n.ins) n.fn n.name n.cap n.d)!=(0:Int)then(ByteArray.mk #[],chkD (Nd.mk n.id n.kind (eI.ag n.ins) n.fn n.name n.cap n.d))
 else(numS n.id++ByteArray.mk #[(59:UInt8)]++numS n.kind++ByteArray.mk #[(59:UInt8)]++insS (eI.ag n.ins)++ByteArray.mk #[(59:UInt8)]++numS n.fn.kind++ByteArray.mk #[(59:UInt8)]++numS n.fn.a++ByteArray.mk #[(59:UInt8)]++textZ n.fn.s++ByteArray.mk #[(59:UInt8)]++textZ n.name++ByteArray.mk #[(59:UInt8)]++numS n.cap++ByteArray.mk #[(59:UInt8)]++numS n.d,(0:Int))
def q99(n:Nd):Prop:=
 eI.okL n.ins/\((chkD (Nd.mk n.id n.kind (eI.ag n.ins) n.fn n.name n.cap n.d)!=(0:Int))=false->i64 n.id/\ByteArray.size (numS n.id)+(1:Nat)<=(9223372036854775807:Nat)/\i64 n.kind/\(numS n.id++ByteArray.mk #[(59:UInt8)]).size+ByteArray.size (numS n.kind)<=(9223372036854775807:Nat)/\(numS n.id++ByteArray.mk #[(59:UInt8)]++numS n.kind).size+(1:Nat)<=(9223372036854775807:Nat)/\eI.okL n.ins/\(eI.ag n.ins).length<=KL/\(∀(x:Int),x∈eI.ag n.ins->i64 x)/\(numS n.id++ByteArray.mk #[(59:UInt8)]++numS n.kind++ByteArray.mk #[(59:UInt8)]).size+ByteArray.size (insS (eI.ag n.ins))<=(9223372036854775807:Nat)/\(numS n.id++ByteArray.mk #[(59:UInt8)]++numS n.kind++ByteArray.mk #[(59:UInt8)]++insS (eI.ag n.ins)).size+(1:Nat)<=(9223372036854775807:Nat)/\i64 n.fn.kind/\(numS n.id++ByteArray.mk #[(59:UInt8)]++numS n.kind++ByteArray.mk #[(59:UInt8)]++insS (eI.ag n.ins)++ByteArray.mk #[(59:UInt8)]).size+ByteArray.size (numS n.fn.kind)<=(9223372036854775807:Nat)/\(numS n.id++ByteArray.mk #[(59:UInt8)]++numS n.kind++ByteArray.mk #[(59:UInt8)]++insS (eI.ag n.ins)++ByteArray.mk #[(59:UInt8)]++numS n.fn.kind).size+(1:Nat)<=(9223372036854775807:Nat)/\i64 n.fn.a/\(numS n.id++ByteArray.mk #[(59:UInt8)]++numS n.kind++ByteArray.mk #[(59:UInt8)]++insS (eI.ag n.ins)++ByteArray.mk #[(59:UInt8)]++numS n.fn.kind++ByteArray.mk #[(59:UInt8)]).size+ByteArray.size (numS n.fn.a)<=(9223372036854775807:Nat)/\(numS n.id++ByteArray.mk #[(59:UInt8)]++numS n.kind++ByteArray.mk #[(59:UInt8)]++insS (eI.ag n.ins)++ByteArray.mk #[(59:UInt8)]++numS n.fn.kind++ByteArray.mk #[(59:UInt8)]++numS n.fn.a).size+(1:Nat)<=(9223372036854775807:Nat)/\ByteArray.size n.fn.s<=KT/\(numS n.id++ByteArray.mk #[(59:UInt8)]++numS n.kind++ByteArray.mk #[(59:UInt8)]++insS (eI.ag n.ins)++ByteArray.mk #[(59:UInt8)]++numS n.fn.kind++ByteArray.mk #[(59:UInt8)]++numS n.fn.a++ByteArray.mk #[(59:UInt8)]).size+ByteArray.size (textZ n.fn.s)<=(9223372036854775807:Nat)/\(numS n.id++ByteArray.mk #[(59:UInt8)]++numS n.kind++ByteArray.mk #[(59:UInt8)]++insS (eI.ag n.ins)++ByteArray.mk #[(59:UInt8)]++numS n.fn.kind++ByteArray.mk #[(59:UInt8)]++numS n.fn.a++ByteArray.mk #[(59:UInt8)]++textZ n.fn.s).size+(1:Nat)<=(9223372036854775807:Nat)/\ByteArray.size n.name<=KT/\(numS n.id++ByteArray.mk #[(59:UInt8)]++numS n.kind++ByteArray.mk #[(59:UInt8)]++insS (eI.ag n.ins)++ByteArray.mk #[(59:UInt8)]++numS n.fn.kind++ByteArray.mk #[(59:UInt8)]++numS n.fn.a++ByteArray.mk #[(59:UInt8)]++textZ n.fn.s++ByteArray.mk #[(59:UInt8)]).size+ByteArray.size (textZ n.name)<=(9223372036854775807:Nat)/\(numS n.id++ByteArray.mk #[(59:UInt8)]++numS n.kind++ByteArray.mk #[(59:UInt8)]++insS (eI.ag n.ins)++ByteArray.mk #[(59:UInt8)]++numS n.fn.kind++ByteArray.mk #[(59:UInt8)]++numS n.fn.a++ByteArray.mk #[(59:UInt8)]++textZ n.fn.s++ByteArray.mk #[(59:UInt8)]++textZ n.name).size+(1:Nat)<=(9223372036854775807:Nat)/\i64 n.cap/\(numS n.id++ByteArray.mk #[(59:UInt8)]++numS n.kind++ByteArray.mk #[(59:UInt8)]++insS (eI.ag n.ins)++ByteArray.mk #[(59:UInt8)]++numS n.fn.kind++ByteArray.mk #[(59:UInt8)]++numS n.fn.a++ByteArray.mk #[(59:UInt8)]++textZ n.fn.s++ByteArray.mk #[(59:UInt8)]++textZ n.name++ByteArray.mk #[(59:UInt8)]).size+ByteArray.size (numS n.cap)<=(9223372036854775807:Nat)/\(numS n.id++ByteArray.mk #[(59:UInt8)]++numS n.kind++ByteArray.mk #[(59:UInt8)]++insS (eI.ag n.ins)++ByteArray.mk #[(59:UInt8)]++numS n.fn.kind++ByteArray.mk #[(59:UInt8)]++numS n.fn.a++ByteArray.mk #[(59:UInt8)]++textZ n.fn.s++ByteArray.mk #[(59:UInt8)]++textZ n.name++ByteArray.mk #[(59:UInt8)]++numS n.cap).size+(1:Nat)<=(9223372036854775807:Nat)/\i64 n.d/\(numS n.id++ByteArray.mk #[(59:UInt8)]++numS n.kind++ByteArray.mk #[(59:UInt8)]++insS (eI.ag n.ins)++ByteArray.mk #[(59:UInt8)]++numS n.fn.kind++ByteArray.mk #[(59:UInt8)]++numS n.fn.a++ByteArray.mk #[(59:UInt8)]++textZ n.fn.s++ByteArray.mk #[(59:UInt8)]++textZ n.name++ByteArray.mk #[(59:UInt8)]++numS n.cap++ByteArray.mk #[(59:UInt8)]).size+ByteArray.size (numS n.d)<=(9223372036854775807:Nat))
theorem rnde_okS(pre:DA.T aD->List Prop)(h:∀g,DA.bd aD g->(∀p∈pre g,p)->q99 g):FnPure Tryd.prog 12 aD dSE (λg=>rnde_F g) pre:=q05 (Γ:=(MTab.gamz q8y [] [])) (Λ:=q6u) (MTab.okz q8y [] []) q2o 100 default (λg=>q99 g) (λg=>by kernel_rfl) (λg=>by kernel_rfl) h
def q1x(z:Bool)(s:BA):Bool×List BA:=
 pcsR z s (9:Int)
def rnd_q2(z:Bool)(s:BA):Bool×Int:=
 numR (q1x z s).fst ((q1x z s).snd.getD (0:Nat) eStr.dflt)
def rnd_q3(z:Bool)(s:BA):Bool×Int:=
 numR (rnd_q2 z s).fst ((q1x z s).snd.getD (1:Nat) eStr.dflt)
def rnd_q4(z:Bool)(s:BA):Bool×List Int:=
 listR (rnd_q3 z s).fst ((q1x z s).snd.getD (2:Nat) eStr.dflt)
def rnd_q5(z:Bool)(s:BA):Bool×Int:=
 numR (rnd_q4 z s).fst ((q1x z s).snd.getD (3:Nat) eStr.dflt)
def rnd_q6(z:Bool)(s:BA):Bool×Int:=
 numR (rnd_q5 z s).fst ((q1x z s).snd.getD (4:Nat) eStr.dflt)
def rnd_q7(z:Bool)(s:BA):BA×Bool:=
 q0v ((q1x z s).snd.getD (5:Nat) eStr.dflt)
def rnd_q8(z:Bool)(s:BA):Bool×ByteArray:=
 rdR (rnd_q6 z s).fst (rnd_q7 z s)
def rnd_q9(z:Bool)(s:BA):BA×Bool:=
 q0v ((q1x z s).snd.getD (6:Nat) eStr.dflt)
def rnd_q10(z:Bool)(s:BA):Bool×ByteArray:=
 rdR (rnd_q8 z s).fst (rnd_q9 z s)
def rnd_q11(z:Bool)(s:BA):Bool×Int:=
 numR (rnd_q10 z s).fst ((q1x z s).snd.getD (7:Nat) eStr.dflt)
def rnd_q12(z:Bool)(s:BA):Bool×Int:=
 numR (rnd_q11 z s).fst ((q1x z s).snd.getD (8:Nat) eStr.dflt)
def rnd_F(z:Bool)(s:BA):TA.T taR×TR.T (TR.pure dD):=
 bif (q1x z s).fst then((q1x z s).fst,Nd.mk (0:Int) (0:Int) [] (Fn.mk (0:Int) (0:Int) (ByteArray.mk #[])) (ByteArray.mk #[]) (0:Int) (0:Int))
 else((rnd_q12 z s).fst,Nd.mk (rnd_q2 z s).snd (rnd_q3 z s).snd (eI.ag (rnd_q4 z s).snd) (Fn.mk (rnd_q5 z s).snd (rnd_q6 z s).snd (rnd_q8 z s).snd) (rnd_q10 z s).snd (rnd_q11 z s).snd (rnd_q12 z s).snd)
def qbu(z:Bool)(s:BA):Prop:=
 ByteArray.size s<=KS/\((0:Int)<=(9:Int)/\(9:Int)<=(100:Int))/\((q1x z s).fst=false->((0:Int)<=(0:Int)/\(0:Int)<(↑(q1x z s).snd.length:Int))/\((0:Int)<=(1:Int)/\(1:Int)<(↑(q1x z s).snd.length:Int))/\((0:Int)<=(2:Int)/\(2:Int)<(↑(q1x z s).snd.length:Int))/\((q1x z s).snd.getD (2:Nat) eStr.dflt).size<=KS/\((0:Int)<=(3:Int)/\(3:Int)<(↑(q1x z s).snd.length:Int))/\((0:Int)<=(4:Int)/\(4:Int)<(↑(q1x z s).snd.length:Int))/\((0:Int)<=(5:Int)/\(5:Int)<(↑(q1x z s).snd.length:Int))/\((q1x z s).snd.getD (5:Nat) eStr.dflt).size<=KT/\((0:Int)<=(6:Int)/\(6:Int)<(↑(q1x z s).snd.length:Int))/\((q1x z s).snd.getD (6:Nat) eStr.dflt).size<=KT/\((0:Int)<=(7:Int)/\(7:Int)<(↑(q1x z s).snd.length:Int))/\((0:Int)<=(8:Int)/\(8:Int)<(↑(q1x z s).snd.length:Int))/\eI.okL (rnd_q4 z s).snd)
theorem rnd_okS(pre:TA.T taR->DA.T aB->List Prop)(h:∀k g,DA.bd aB g->(∀p∈pre k g,p)->qbu k g):FnT Tryd.prog 32 taR aB (TR.pure dD) (λk g=>rnd_F k g) pre:=q2q (Γ:=(MTab.gamz q8y [] [])) (Λ:=q6u) (MTab.okz q8y [] []) q2o 100 default (λk g=>qbu k g) (λk g=>by kernel_rfl) (λk g=>by kernel_rfl) h
def q2u(z:Bool)(s:BA):Bool×List BA:=
 pcsR z s (7:Int)
def rmv_q2(z:Bool)(s:BA):Bool×Int:=
 numR (q2u z s).fst ((q2u z s).snd.getD (0:Nat) eStr.dflt)
def rmv_q3(z:Bool)(s:BA):Bool×Int:=
 numR (rmv_q2 z s).fst ((q2u z s).snd.getD (1:Nat) eStr.dflt)
def rmv_q4(z:Bool)(s:BA):Bool×Int:=
 numR (rmv_q3 z s).fst ((q2u z s).snd.getD (2:Nat) eStr.dflt)
def rmv_q5(z:Bool)(s:BA):Bool×Int:=
 numR (rmv_q4 z s).fst ((q2u z s).snd.getD (3:Nat) eStr.dflt)
def rmv_q6(z:Bool)(s:BA):Bool×Int:=
 numR (rmv_q5 z s).fst ((q2u z s).snd.getD (4:Nat) eStr.dflt)
def rmv_q7(z:Bool)(s:BA):Bool×Int:=
 numR (rmv_q6 z s).fst ((q2u z s).snd.getD (5:Nat) eStr.dflt)
def rmv_q8(z:Bool)(s:BA):BA×Bool:=
 q0v ((q2u z s).snd.getD (6:Nat) eStr.dflt)
def rmv_q9(z:Bool)(s:BA):Bool×ByteArray:=
 rdR (rmv_q7 z s).fst (rmv_q8 z s)
def rmv_F(z:Bool)(s:BA):TA.T taR×TR.T (TR.pure dV):=
 bif (q2u z s).fst then((q2u z s).fst,Mv.mk (0:Int) (0:Int) (0:Int) (0:Int) (Fn.mk (0:Int) (0:Int) (ByteArray.mk #[])))
 else((rmv_q9 z s).fst,Mv.mk (rmv_q2 z s).snd (rmv_q3 z s).snd (rmv_q4 z s).snd (rmv_q5 z s).snd (Fn.mk (rmv_q6 z s).snd (rmv_q7 z s).snd (rmv_q9 z s).snd))
def qbv(z:Bool)(s:BA):Prop:=
 ByteArray.size s<=KS/\((0:Int)<=(7:Int)/\(7:Int)<=(100:Int))/\((q2u z s).fst=false->((0:Int)<=(0:Int)/\(0:Int)<(↑(q2u z s).snd.length:Int))/\((0:Int)<=(1:Int)/\(1:Int)<(↑(q2u z s).snd.length:Int))/\((0:Int)<=(2:Int)/\(2:Int)<(↑(q2u z s).snd.length:Int))/\((0:Int)<=(3:Int)/\(3:Int)<(↑(q2u z s).snd.length:Int))/\((0:Int)<=(4:Int)/\(4:Int)<(↑(q2u z s).snd.length:Int))/\((0:Int)<=(5:Int)/\(5:Int)<(↑(q2u z s).snd.length:Int))/\((0:Int)<=(6:Int)/\(6:Int)<(↑(q2u z s).snd.length:Int))/\((q2u z s).snd.getD (6:Nat) eStr.dflt).size<=KT)
theorem rmv_okS(pre:TA.T taR->DA.T aB->List Prop)(h:∀k g,DA.bd aB g->(∀p∈pre k g,p)->qbv k g):FnT Tryd.prog 78 taR aB (TR.pure dV) (λk g=>rmv_F k g) pre:=q2q (Γ:=(MTab.gamz q8y [] [])) (Λ:=q6u) (MTab.okz q8y [] []) q2o 100 default (λk g=>qbv k g) (λk g=>by kernel_rfl) (λk g=>by kernel_rfl) h
def KP:Nat:=5000000
def nodeE(n:Nd):BA×Int:=bif chkD n !=(0:Int)then(bE,chkD n)else(nodeS n,0)
theorem bne0{x:Int}(h:(x !=(0:Int))=false):x=0:=by simpa using h
theorem nde_eq(n:Nd)(h:wfD n):nde_side n/\nde_F n=nodeE n:=by
 unfold nde_side nde_F nodeE;simp only[El.ag_eq,El.okL_eq];exact⟨⟨trivial,λhc=>⟨trivial,h,qa3 (bne0 hc)⟩⟩,trivial⟩
theorem nde_ok:FnPure Tryd.prog 11 aD dSE nodeE (λn=>[wfD n]):=
 q0d (nde_okS _ λr _ hp=>(nde_eq r (hp _ (List.mem_cons_self ..))).1) λr _ hp=>(nde_eq r (hp _ (List.mem_cons_self ..))).2
theorem joi2(x y:BA)(r:List BA):joiS 59 (x::y::r)=x++ByteArray.mk #[(59:UInt8)]++joiS 59 (y::r):=by
 have e:joiG 59 (bts x::bts y::r.map bts)=bts x++59::joiG 59 (bts y::r.map bts):=by simp[joiG]
 unfold joiS;rw[List.map_cons,List.map_cons,e,<-q2l,<-strOf_cons,q1q,ByteArray.append_assoc];rfl
theorem joi1(x:BA):joiS 59 [x]=x:=by
 unfold joiS joiG;simp only[List.map_cons,List.map_nil,List.flatten_nil,List.append_nil];exact q1q x
theorem nodeS_app(n:Nd):nodeS n=numS n.id++ByteArray.mk #[(59:UInt8)]++numS n.kind++ByteArray.mk #[(59:UInt8)]++insS n.ins++ByteArray.mk #[(59:UInt8)]++numS n.fn.kind++ByteArray.mk #[(59:UInt8)]++numS n.fn.a++ByteArray.mk #[(59:UInt8)]++textZ n.fn.s++ByteArray.mk #[(59:UInt8)]++textZ n.name++ByteArray.mk #[(59:UInt8)]++numS n.cap++ByteArray.mk #[(59:UInt8)]++numS n.d:=by
 unfold nodeS nodeP;rw[joi2,joi2,joi2,joi2,joi2,joi2,joi2,joi2,joi1];simp only[ByteArray.append_assoc]
theorem rnde_eq(n:Nd)(h:wfD n):q99 n/\rnde_F n=nodeE n:=by
 unfold q99 rnde_F nodeE;simp only[El.ag_eq,El.okL_eq];refine⟨⟨trivial,λhc=>?_⟩,by rw[nodeS_app]⟩;have hz:n.ins.length<=2/\n.fn.s.size<=64/\n.name.size<=64:=chkD_sz (bne0 hc);obtain⟨h1,h2,h3,h4,h5,h6,h7⟩:=h;have s1:=q0l h1;have s2:=q0l h2;have s3:=insS_size n.ins h3;have s4:=q0l h4;have s5:=q0l h5;have s6:=q5h n.fn.s;have s7:=q5h n.name;have s8:=q0l h6;have s9:=q0l h7;have e1:(ByteArray.mk #[(59:UInt8)]).size=1:=rfl;simp only[ByteArray.size_append,e1];unfold KL KT
 repeat' (first|exact h1|exact h2|exact h3|exact h4|exact h5|exact h6|exact h7|trivial|apply And.intro)
 all_goals omega
theorem rnde_ok:FnPure Tryd.prog 12 aD dSE nodeE (λn=>[wfD n]):=
 q0d (rnde_okS _ λr _ hp=>(rnde_eq r (hp _ (List.mem_cons_self ..))).1) λr _ hp=>(rnde_eq r (hp _ (List.mem_cons_self ..))).2
abbrev pcN(p:List BA)(k:Nat):BA:=p.getD k eStr.dflt
def q5s(p:List BA):Nd:=⟨num0 (pcN p 0),num0 (pcN p 1),listV (pcN p 2),⟨num0 (pcN p 3),num0 (pcN p 4),(q0v (pcN p 5)).1⟩,(q0v (pcN p 6)).1,num0 (pcN p 7),num0 (pcN p 8)⟩
def q6t(p:List BA):Bool:=(q07 (pcN p 0)).2&&(q07 (pcN p 1)).2&&(listZ (pcN p 2)).2&&(q07 (pcN p 3)).2&&(q07 (pcN p 4)).2&&(q0v (pcN p 5)).2&&(q0v (pcN p 6)).2&&(q07 (pcN p 7)).2&&(q07 (pcN p 8)).2
def nd0:Nd:=⟨0,0,[],⟨0,0,bE⟩,bE,0,0⟩
def nodeR(z:Bool)(s:BA):Bool×Nd:=bif (pcsR z s 9).1 then((pcsR z s 9).1,nd0)else(bif q6t (pcsR z s 9).2 then(pcsR z s 9).1 else true,q5s (pcsR z s 9).2)
theorem cc(a c z:Bool):(bif c then(bif a then z else true)else true)=bif (a&&c)then z else true:=by cases a<;>cases c<;>rfl
theorem pcN_mem{p:List BA}{k:Nat}(h:k<p.length):pcN p k∈p:=by
 unfold pcN;rw[List.getD_eq_getElem?_getD,List.getElem?_eq_getElem h];exact List.getElem_mem h
theorem pcsR_sz(z:Bool)(s:BA)(n:Int):∀x∈(pcsR z s n).2,x.size<=s.size:=by
 unfold pcsR;cases((splS 59 s).length:Int)!=n with
 |true=>
  intro x hx;have hx:x∈List.replicate n.toNat bE:=hx;rw[(List.mem_replicate.1 hx).2];exact Nat.zero_le _
 |false=>exactλx hx=>q7r hx
theorem pcN_sz(z:Bool)(s:BA)(n:Int)(k:Nat):(pcN (pcsR z s n).2 k).size<=s.size:=by
 rcases Nat.lt_or_ge k (pcsR z s n).2.length with h|h
 .exact pcsR_sz z s n _ (pcN_mem h)
 .unfold pcN;rw[List.getD_eq_getElem?_getD,List.getElem?_eq_none h];exact Nat.zero_le _
theorem rnd_eq(z:Bool)(s:BA)(hs:s.size<=KP):qbu z s/\rnd_F z s=nodeR z s:=by
 have hl:=pcsR_len z s (n:=9) (by decide);have hz:=pcN_sz z s 9;have z2:=hz 2;have z5:=hz 5;have z6:=hz 6;unfold KP at hs;constructor
 .have z2:((pcsR z s 9).2.getD 2 eStr.dflt).size<=s.size:=z2;have z5:((pcsR z s 9).2.getD 5 eStr.dflt).size<=s.size:=z5;have z6:((pcsR z s 9).2.getD 6 eStr.dflt).size<=s.size:=z6;unfold qbu rnd_q4 q1x KS KT;simp only[El.okL_eq];generalize pcsR z s 9=q at hl z2 z5 z6;refine⟨by omega,by omega,λ_=>?_⟩;generalize q.2.getD 2 eStr.dflt=x2 at z2;generalize q.2.getD 5 eStr.dflt=x5 at z5;generalize q.2.getD 6 eStr.dflt=x6 at z6
  repeat' (first|exact True.intro|apply And.intro)
  all_goals omega
 .unfold rnd_F nodeR;show(bif (pcsR z s 9).1 then _ else _)=_;cases hp:(pcsR z s 9).1 with
  |true=>
   rw[show(q1x z s).fst=true from hp];rfl
  |false=>
   simp only[cond_false];unfold rnd_q12 rnd_q11 rnd_q10 rnd_q9 rnd_q8 rnd_q7 rnd_q6 rnd_q5 rnd_q4 rnd_q3 rnd_q2 q1x q6t q5s;simp only[numR_eq,rdR,listR,cc,El.ag_eq];rw[hp]
theorem rnd_c:FnT Tryd.prog 32 taR aB (TR.pure dD) (λz s=>nodeR z s) (λ_ s=>[s.size<=KP]):=
 q5g (rnd_okS (λ_ s=>[s.size<=KP]) λz s _ hp=>(rnd_eq z s (hp _ (List.mem_cons_self ..))).1) (λ_ _ h=>h) λz s _ hp=>(rnd_eq z s (hp _ (List.mem_cons_self ..))).2
def moveRd(p:List BA):Mv:=⟨num0 (pcN p 0),num0 (pcN p 1),num0 (pcN p 2),num0 (pcN p 3),⟨num0 (pcN p 4),num0 (pcN p 5),(q0v (pcN p 6)).1⟩⟩
def moveOk(p:List BA):Bool:=(q07 (pcN p 0)).2&&(q07 (pcN p 1)).2&&(q07 (pcN p 2)).2&&(q07 (pcN p 3)).2&&(q07 (pcN p 4)).2&&(q07 (pcN p 5)).2&&(q0v (pcN p 6)).2
def mv0:Mv:=⟨0,0,0,0,⟨0,0,bE⟩⟩
def moveR(z:Bool)(s:BA):Bool×Mv:=bif (pcsR z s 7).1 then((pcsR z s 7).1,mv0)else(bif moveOk (pcsR z s 7).2 then(pcsR z s 7).1 else true,moveRd (pcsR z s 7).2)
theorem rmv_eq(z:Bool)(s:BA)(hs:s.size<=KP):qbv z s/\rmv_F z s=moveR z s:=by
 have hl:=pcsR_len z s (n:=7) (by decide);have z6:=pcN_sz z s 7 6;unfold KP at hs;constructor
 .have z6:((pcsR z s 7).2.getD 6 eStr.dflt).size<=s.size:=z6;unfold qbv q2u KS KT;generalize pcsR z s 7=q at hl z6;refine⟨by omega,by omega,λ_=>?_⟩;generalize q.2.getD 6 eStr.dflt=x6 at z6
  repeat' (first|exact True.intro|apply And.intro)
  all_goals omega
 .unfold rmv_F moveR;show(bif (pcsR z s 7).1 then _ else _)=_;cases hp:(pcsR z s 7).1 with
  |true=>
   rw[show(q2u z s).fst=true from hp];rfl
  |false=>
   simp only[cond_false];unfold rmv_q9 rmv_q8 rmv_q7 rmv_q6 rmv_q5 rmv_q4 rmv_q3 rmv_q2 q2u moveOk moveRd;simp only[numR_eq,rdR,cc];rw[hp]
theorem rmv_c:FnT Tryd.prog 78 taR aB (TR.pure dV) (λz s=>moveR z s) (λ_ s=>[s.size<=KP]):=
 q5g (rmv_okS (λ_ s=>[s.size<=KP]) λz s _ hp=>(rmv_eq z s (hp _ (List.mem_cons_self ..))).1) (λ_ _ h=>h) λz s _ hp=>(rmv_eq z s (hp _ (List.mem_cons_self ..))).2
def tabN25:MTab Tryd.prog:=(((q8y.cons 11 (pconP aD dSE nodeE (λn=>[wfD n])) (q0o nde_ok puSE)).cons 12 (pconP aD dSE nodeE (λn=>[wfD n])) (q0o rnde_ok puSE)).consM 32 (bconT taR aB (TR.pure dD) (λz s=>nodeR z s) (λ_ s=>[s.size<=KP])) (q48 rnd_c)).consM 78 (bconT taR aB (TR.pure dV) (λz s=>moveR z s) (λ_ s=>[s.size<=KP])) (q48 rmv_c)
abbrev cNd:CT Nd:=.iso (.pair (.pl (.pair eI eI)) (.pair (.row 3 eI) (.pl (.pair eF (.pair eStr (.pair eI eI)))))) (λp=>⟨p.1.1,p.1.2,p.2.1,p.2.2.1,p.2.2.2.1,p.2.2.2.2.1,p.2.2.2.2.2⟩) (λl=>((l.id,l.kind),l.ins,(l.fn,l.name,l.cap,l.d))) (λ_=>rfl)
abbrev dDE:Dv (Nd×Int):=.tup (.cons dD (.one dI))
abbrev pi_G:Type:=List BA×Int×Unit×Nd×Bool
def pi_LP:LP 2 pi_G:=.pair (.slot 2 11 dLS) (.pair (.slot 2 12 dI) (.pair (.fix 2 5 (.p 1 0)) (.pair (.ctO 2 1 44 cNd) (.slot 2 10 dBool))))
def pi_R(xs:List BA)(i:Int)(_u:Unit)(n:Nd)(o:Bool):Ex×pi_G:=
 bif decide (i<(↑xs.length:Int))then(Ex.normal,eStr.ag xs,IntKind.i64.wrap (i+(1:Int)),(),Nd.mk n.id n.kind (eI.lst (min (n.ins.length+(1:Nat)) n.ins.length) (eI.els n.ins)++List.map (λx=>(q07 (xs.getD i.toNat eStr.dflt)).fst) (List.range (n.ins.length+(1:Nat)-n.ins.length))) n.fn n.name n.cap n.d,o&&(q07 (xs.getD i.toNat eStr.dflt)).snd)
 else(Ex.exit (0:Nat),eStr.ag xs,i,(),Nd.mk n.id n.kind (eI.ag n.ins) n.fn n.name n.cap n.d,o)
def pi_side(xs:List BA)(i:Int)(_u:Unit)(n:Nd)(o:Bool):Prop:=
 (decide (i<(↑xs.length:Int))=true->((0:Int)<=i/\i<(↑xs.length:Int))/\(xs.getD i.toNat eStr.dflt).size<=KB/\(n.ins.length<=n.ins.length/\True/\n.ins.length+(1:Nat)<=maxLen/\(n.ins.length+(1:Nat))*Tryd.prog.types[(3:Nat)].bytes<=(140737488355328:Nat))/\eStr.okL xs/\n.ins.length+(1:Nat)<=n.ins.length+(1:Nat)/\(∀(e:Nat),e<min (n.ins.length+(1:Nat)) n.ins.length->True)/\∀(e:Nat),e<n.ins.length+(1:Nat)-n.ins.length->True)/\(decide (i<(↑xs.length:Int))=false->eStr.okL xs/\n.ins.length<=n.ins.length/\∀(e:Nat),e<n.ins.length->True)
theorem pi_one:((q00 Tryd.prog 14).filter λc=>Nat.beq (lkey c) 11).length=1:=by kernel_rfl
abbrev pi_GC:Type:=List BA
abbrev pi_GB:Type:=Nd×Bool×Unit
def pi_f(g:pi_G):Int×pi_GC×pi_GB:=(g.2.1,g.1,(g.2.2.2.1,g.2.2.2.2,g.2.2.1))
def pi_g(d:Int×pi_GC×pi_GB):pi_G:=(d.2.1,d.1,d.2.2.2.2,d.2.2.1,d.2.2.2.1)
abbrev pi_rr(g:pi_G):Ex×pi_G:=pi_R g.1 g.2.1 g.2.2.1 g.2.2.2.1 g.2.2.2.2
abbrev pi_ss(g:pi_G):Prop:=pi_side g.1 g.2.1 g.2.2.1 g.2.2.2.1 g.2.2.2.2
theorem pi_es(g:pi_G):(pi_rr g).1=.normal\/(pi_rr g).1∈([.exit 0]:List Ex):=by
 unfold pi_rr pi_R
 repeat' (first|(left;rfl)|(right;simp only[cond_true,cond_false];simp;done)|(rw[Bool.cond_eq_ite];split))
abbrev pi_C(Inv:pi_G->List Prop)(m:pi_G->Nat):LCon:=loopR [.exit 0] (loopBody Tryd.prog 14 11) pi_LP [] 173 Inv pi_rr m
theorem pi_loop(Inv:pi_G->List Prop)(m:pi_G->Nat)(hs:∀g,allP (Inv g)->pi_ss g)(hg:Goes pi_rr m λg=>allP (Inv g)):∀b∈q00 Tryd.prog 14,lkey b=11->q04 Tryd.prog b (pi_C Inv m).g:=q0h (Γ:=(MTab.gamz tabN25 [] [])) (Λ:=q6u) (MTab.okz tabN25 [] []) q2o 100 14 11 173 pi_LP [] Inv pi_rr pi_ss m default [.exit 0] pi_one (λrd T B HL HB ds g=>by kernel_rfl) (λrd T B HL HB ds g=>by kernel_rfl) hs hg pi_es
def q0c(s:BA):Bool×Nd:=
 nodeR false s
def psn_F(s:BA):Dv.T dDE:=
 bif (q0c s).fst||(chkD (Nd.mk (q0c s).snd.id (q0c s).snd.kind (eI.ag (q0c s).snd.ins) (q0c s).snd.fn (q0c s).snd.name (q0c s).snd.cap (q0c s).snd.d)!=(0:Int)||!decide (nodeS (Nd.mk (q0c s).snd.id (q0c s).snd.kind (eI.ag (q0c s).snd.ins) (q0c s).snd.fn (q0c s).snd.name (q0c s).snd.cap (q0c s).snd.d)=s))then(Nd.mk (0:Int) (0:Int) [] (Fn.mk (0:Int) (0:Int) (ByteArray.mk #[])) (ByteArray.mk #[]) (0:Int) (0:Int),(271:Int))
 else(Nd.mk (q0c s).snd.id (q0c s).snd.kind (eI.ag (q0c s).snd.ins) (q0c s).snd.fn (q0c s).snd.name (q0c s).snd.cap (q0c s).snd.d,(0:Int))
def psn_side(s:BA):Prop:=
 ByteArray.size s<=KP/\((!(q0c s).fst)=true->eI.okL (q0c s).snd.ins)/\((!(q0c s).fst)=true->(!chkD (Nd.mk (q0c s).snd.id (q0c s).snd.kind (eI.ag (q0c s).snd.ins) (q0c s).snd.fn (q0c s).snd.name (q0c s).snd.cap (q0c s).snd.d)!=(0:Int))=true->eI.okL (q0c s).snd.ins)/\((!(q0c s).fst)=true->(!chkD (Nd.mk (q0c s).snd.id (q0c s).snd.kind (eI.ag (q0c s).snd.ins) (q0c s).snd.fn (q0c s).snd.name (q0c s).snd.cap (q0c s).snd.d)!=(0:Int))=true->wfD (Nd.mk (q0c s).snd.id (q0c s).snd.kind (eI.ag (q0c s).snd.ins) (q0c s).snd.fn (q0c s).snd.name (q0c s).snd.cap (q0c s).snd.d))/\((!(q0c s).fst)=true->(!chkD (Nd.mk (q0c s).snd.id (q0c s).snd.kind (eI.ag (q0c s).snd.ins) (q0c s).snd.fn (q0c s).snd.name (q0c s).snd.cap (q0c s).snd.d)!=(0:Int))=true->szD (Nd.mk (q0c s).snd.id (q0c s).snd.kind (eI.ag (q0c s).snd.ins) (q0c s).snd.fn (q0c s).snd.name (q0c s).snd.cap (q0c s).snd.d))/\(((q0c s).fst||(chkD (Nd.mk (q0c s).snd.id (q0c s).snd.kind (eI.ag (q0c s).snd.ins) (q0c s).snd.fn (q0c s).snd.name (q0c s).snd.cap (q0c s).snd.d)!=(0:Int)||!decide (nodeS (Nd.mk (q0c s).snd.id (q0c s).snd.kind (eI.ag (q0c s).snd.ins) (q0c s).snd.fn (q0c s).snd.name (q0c s).snd.cap (q0c s).snd.d)=s)))=false->eI.okL (q0c s).snd.ins)
theorem psn_okS(pre:DA.T aB->List Prop)(h:∀g,DA.bd aB g->(∀p∈pre g,p)->psn_side g):FnPure Tryd.prog 13 aB dDE (λg=>psn_F g) pre:=q05 (Γ:=(MTab.gamz tabN25 [] [])) (Λ:=q6u) (MTab.okz tabN25 [] []) q2o 100 default (λg=>psn_side g) (λg=>by kernel_rfl) (λg=>by kernel_rfl) h
theorem q3x{w:BA}(h:(q07 w).2=true):num0 w=(q07 w).1:=by
 unfold num0;rw[h];rfl
theorem q5q{w:BA}(h:(q07 w).2=true):numS (num0 w)=w:=by rw[q3x h,q5m h]
theorem listV_back{w:BA}(h:(listZ w).2=true):insS (listV w)=w:=by rw[listV_ok h,listZ_ok h]
theorem wf_nodeRd(p:List BA):wfD (q5s p):=⟨q2i _,q2i _,listV_i64 _,q2i _,q2i _,q2i _,q2i _⟩
theorem wf_moveRd(p:List BA):wfV (moveRd p):=⟨q2i _,q2i _,q2i _,q2i _,q2i _,q2i _⟩
theorem nine{α:Type}{p:List α}(d:α)(h:p.length=9):p=[p.getD 0 d,p.getD 1 d,p.getD 2 d,p.getD 3 d,p.getD 4 d,p.getD 5 d,p.getD 6 d,p.getD 7 d,p.getD 8 d]:=by
 match p,h with
 | [_,_,_,_,_,_,_,_,_],_=>rfl
theorem nodeP_rd{p:List BA}(hl:p.length=9)(h:q6t p=true):nodeP (q5s p)=p:=by
 unfold q6t at h;simp only[Bool.and_eq_true]at h;obtain⟨⟨⟨⟨⟨⟨⟨⟨h0,h1⟩,h2⟩,h3⟩,h4⟩,h5⟩,h6⟩,h7⟩,h8⟩:=h
 conv=>rhs;rw[nine eStr.dflt hl]
 unfold nodeP q5s;simp only[q5q h0,q5q h1,listV_back h2,q5q h3,q5q h4,untextZ_ok h5,untextZ_ok h6,q5q h7,q5q h8]
theorem q33{n:Int}(h:i64 n):num0 (numS n)=n:=by
 unfold num0;rw[q0t h];rfl
theorem listV_ins{xs:List Int}(h:∀x∈xs,i64 x):listV (insS xs)=xs:=by
 have hb:=listZ_back h;rw[listV_ok (by rw[hb]),hb]
theorem nodeRd_P{n:Nd}(h:wfD n):q5s (nodeP n)=n/\q6t (nodeP n)=true:=by
 obtain⟨h1,h2,h3,h4,h5,h6,h7⟩:=h;obtain⟨id,kind,ins,⟨fk,fa,fs⟩,name,cap,d⟩:=n;constructor
 .show(⟨num0 (numS id),num0 (numS kind),listV (insS ins),⟨num0 (numS fk),num0 (numS fa),(q0v (textZ fs)).1⟩,(q0v (textZ name)).1,num0 (numS cap),num0 (numS d)⟩:Nd)=_;rw[q33 h1,q33 h2,listV_ins h3,q33 h4,q33 h5,q33 h6,q33 h7,q3b,q3b]
 .show((q07 (numS id)).2&&(q07 (numS kind)).2&&(listZ (insS ins)).2&&(q07 (numS fk)).2&&(q07 (numS fa)).2&&(q0v (textZ fs)).2&&(q0v (textZ name)).2&&(q07 (numS cap)).2&&(q07 (numS d)).2)=true;rw[q0t h1,q0t h2,listZ_back h3,q0t h4,q0t h5,q0t h6,q0t h7,q3b,q3b];rfl
theorem moveRd_P{m:Mv}(h:wfV m):moveRd (moveP m)=m/\moveOk (moveP m)=true:=by
 obtain⟨h1,h2,h3,h4,h5,h6⟩:=h;obtain⟨fr,t0,kind,a,⟨fk,fa,fs⟩⟩:=m;constructor
 .show(⟨num0 (numS fr),num0 (numS t0),num0 (numS kind),num0 (numS a),⟨num0 (numS fk),num0 (numS fa),(q0v (textZ fs)).1⟩⟩:Mv)=_;rw[q33 h1,q33 h2,q33 h3,q33 h4,q33 h5,q33 h6,q3b]
 .show((q07 (numS fr)).2&&(q07 (numS t0)).2&&(q07 (numS kind)).2&&(q07 (numS a)).2&&(q07 (numS fk)).2&&(q07 (numS fa)).2&&(q0v (textZ fs)).2)=true;rw[q0t h1,q0t h2,q0t h3,q0t h4,q0t h5,q0t h6,q3b];rfl
theorem splS_node{n:Nd}(h:wfD n):splS 59 (nodeS n)=nodeP n:=by
 obtain⟨h1,h2,h3,h4,h5,h6,h7⟩:=h;refine q4v ⟨by decide,by decide⟩ (by unfold nodeP;simp) λx hx a ha=>?_
 have key:wd a\/a=44:=by
  simp only[nodeP,List.mem_cons,List.not_mem_nil,or_false]at hx;rcases hx with rfl|rfl|rfl|rfl|rfl|rfl|rfl|rfl|rfl
  .exact .inl (q17 h1 a ha)
  .exact .inl (q17 h2 a ha)
  .exact(insS_wd h3 a ha).symm
  .exact .inl (q17 h4 a ha)
  .exact .inl (q17 h5 a ha)
  .exact .inl (q7q _ a ha)
  .exact .inl (q7q _ a ha)
  .exact .inl (q17 h6 a ha)
  .exact .inl (q17 h7 a ha)
 rcases key with h|h
 .exact h.2.2.2
 .omega
theorem splS_move{m:Mv}(h:wfV m):splS 59 (moveS m)=moveP m:=by
 obtain⟨h1,h2,h3,h4,h5,h6⟩:=h;refine q4v ⟨by decide,by decide⟩ (by unfold moveP;simp) λx hx a ha=>?_
 have key:wd a:=by
  simp only[moveP,List.mem_cons,List.not_mem_nil,or_false]at hx;rcases hx with rfl|rfl|rfl|rfl|rfl|rfl|rfl
  .exact q17 h1 a ha
  .exact q17 h2 a ha
  .exact q17 h3 a ha
  .exact q17 h4 a ha
  .exact q17 h5 a ha
  .exact q17 h6 a ha
  .exact q7q _ a ha
 exact key.2.2.2
def q2v(s:BA):Nd×Int:=bif decide ((splS 59 s).length=9)&&(q6t (splS 59 s)&&decide (chkD (q5s (splS 59 s))=0))then(q5s (splS 59 s),0)else(nd0,271)
theorem nodeS_rd{s:BA}(hl:(splS 59 s).length=9)(h:q6t (splS 59 s)=true):nodeS (q5s (splS 59 s))=s:=by
 unfold nodeS;rw[nodeP_rd hl h,q9r]
theorem parseZ_ok{s:BA}{n:Nd}(h:q2v s=(n,0)):nodeS n=s/\wfD n/\chkD n=0:=by
 unfold q2v at h;cases hc:decide ((splS 59 s).length=9)&&(q6t (splS 59 s)&&decide (chkD (q5s (splS 59 s))=0))with
 |false=>rw[hc]at h;cases h
 |true=>
  rw[hc]at h;simp only[Bool.and_eq_true,decide_eq_true_eq]at hc;obtain⟨h1,h2,h3⟩:=hc;cases h;exact⟨nodeS_rd h1 h2,wf_nodeRd _,h3⟩
theorem parseZ_back{n:Nd}(h:wfD n)(hc:chkD n=0):q2v (nodeS n)=(n,0):=by
 unfold q2v;obtain⟨h1,h2⟩:=nodeRd_P h;rw[splS_node h,h1,h2,decide_eq_true hc];rfl
theorem chkD_out(n:Nd):(chkD n !=(0:Int))=!decide (chkD n=0):=by
 rw[Bool.eq_iff_iff];simp
theorem q62(n:Nd):Nd.mk n.id n.kind n.ins n.fn n.name n.cap n.d=n:=rfl
theorem psn_eq(s:BA)(hs:s.size<=KP):psn_side s/\psn_F s=q2v s:=by
 unfold psn_side psn_F q0c q2v nodeR pcsR;simp only[El.ag_eq,El.okL_eq,q62];by_cases hl:(splS 59 s).length=9
 .have e1:(((splS 59 s).length:Int)!=(9:Int))=false:=by rw[hl];rfl
  rw[e1,decide_eq_true hl];simp only[cond_false,Bool.true_and];cases hk:q6t (splS 59 s)with
  |false=>
   refine⟨⟨hs,λ_=>trivial,λ_ _=>trivial,λh=>(by cases h),λh=>(by cases h),λ_=>trivial⟩,rfl⟩
  |true=>
   have he:=nodeS_rd hl hk;have hw:=wf_nodeRd (splS 59 s);refine⟨⟨hs,λ_=>trivial,λ_ _=>trivial,λ_ _=>hw,λ_ h=>qa3 ?_,λ_=>trivial⟩,?_⟩
   .rw[chkD_out]at h;simpa using h
   .rw[@decide_eq_true _ _ he,chkD_out];simp only[cond_true,Bool.false_or,Bool.true_and,Bool.not_true,Bool.or_false];cases decide (chkD (q5s (splS 59 s))=0)<;>rfl
 .have e1:(((splS 59 s).length:Int)!=(9:Int))=true:=by
   rw[bne_iff_ne];omega
  rw[e1,decide_eq_false hl];refine⟨⟨hs,λ_=>trivial,λ_ _=>trivial,λh=>(by cases h),λh=>(by cases h),λ_=>trivial⟩,rfl⟩
theorem psn_ok:FnPure Tryd.prog 13 aB dDE q2v (λs=>[s.size<=KP]):=
 q0d (psn_okS _ λr _ hp=>(psn_eq r (hp _ (List.mem_cons_self ..))).1) λr _ hp=>(psn_eq r (hp _ (List.mem_cons_self ..))).2
abbrev pi_xs(c:pi_GC):List BA:=c
abbrev pi_lim(c:pi_GC):Int:=(List.length c:Int)
def withI(n:Nd)(l:List Int):Nd:=⟨n.id,n.kind,l,n.fn,n.name,n.cap,n.d⟩
def pi_S(_:pi_GC)(b:pi_GB)(_:Int)(a:BA):Ex×pi_GB:=(.normal,(withI b.1 (b.1.ins++[(q07 a).1]),b.2.1&&(q07 a).2,()))
def pi_K(c:pi_GC)(b:pi_GB)(i:Int):Prop:=(b.1.ins.length:Int)<=i/\List.length c<=KS+1/\∀x∈c,ByteArray.size x<=KB
abbrev pi_I(g:pi_G):List Prop:=ixI pi_lim pi_xs pi_K (pi_f g)
abbrev pi_M(g:pi_G):Nat:=ixM pi_lim (pi_f g)
theorem pi_P:ixP pi_S pi_xs pi_K:=λc b i a h _ _=>⟨by
 have:=h.1;show(((b.1.ins++[(q07 a).1]).length:Nat):Int)<=_;rw[List.length_append];simp only[List.length_cons,List.length_nil];omega,h.2⟩
abbrev pi_RR(g:pi_G):Ex×pi_G:=pi_R g.1 g.2.1 g.2.2.1 g.2.2.2.1 g.2.2.2.2
theorem pi_RF(d:Int×pi_GC×pi_GB):pi_RR (pi_g d)=((ixF 0 pi_lim pi_xs eStr.dflt pi_S d).1,pi_g (ixF 0 pi_lim pi_xs eStr.dflt pi_S d).2):=by
 obtain⟨i,xs,⟨n,o,⟨⟩⟩⟩:=d;show pi_R xs i () n o=_;unfold pi_R ixF pi_S withI;simp only[El.ag_eq,q2s];cases decide (i<(xs.length:Int))<;>rfl
theorem pi_ok:∀b∈q00 Tryd.prog 14,lkey b=11->q04 Tryd.prog b (pi_C pi_I pi_M).g:=by
 refine pi_loop pi_I pi_M (λg hi=>?_) (q09 (φ:=pi_f) (ψ:=pi_g) (λ_=>rfl) (λ_=>rfl) (λd _=>pi_RF d) pi_P);obtain⟨xs,i,⟨⟩,n,o⟩:=g;obtain⟨_,_,h3,h4,h5,h6,h7⟩:=hi _ (List.mem_cons_self ..);have h3:0<=i:=h3;have h4:i<=(xs.length:Int):=h4;have h5:(n.ins.length:Int)<=i:=h5;have h6:xs.length<=KS+1:=h6;have h7:∀x∈xs,ByteArray.size x<=KB:=h7;unfold KS at h6;show pi_side xs i () n o;unfold pi_side;simp only[El.okL_eq,by3,Nat.le_refl,implies_true,true_and,and_true];intro hlt;have hlt:=of_decide_eq_true hlt;have hi:i.toNat<xs.length:=by omega
 refine⟨⟨h3,by omega⟩,?_,by unfold maxLen;omega,by omega⟩;rw[List.getD_eq_getElem?_getD,List.getElem?_eq_getElem hi];exact h7 _ (List.getElem_mem hi)
theorem pi_scan(c:pi_GC):∀(l:List BA)(i:Int)(n:Nd)(o:Bool),scan 0 (pi_S c) i l (n,o,())=(.exit 0,i+l.length,(withI n (n.ins++l.map λw=>(q07 w).1),o&&l.all (λw=>(q07 w).2),()))
 | [],i,n,o=>by simp[scan,withI]
 |a::l,i,n,o=>by
  show scan 0 (pi_S c) (i+1) l (withI n (n.ins++[(q07 a).1]),o&&(q07 a).2,())=_;rw[pi_scan c l,List.length_cons,List.all_cons,List.map_cons,Bool.and_assoc,show i+1+(l.length:Int)=i+((l.length+1:Nat):Int) by omega];unfold withI;simp only[List.append_assoc,List.cons_append,List.nil_append]
theorem pi_run(xs:List BA)(n:Nd)(o:Bool)(hn:n.ins=[])(hx:xs.length<=KS+1)(hz:∀x∈xs,ByteArray.size x<=KB):loopF pi_RR pi_M (xs,0,(),n,o)=(.exit 0,xs,(xs.length:Int),(),withI n (xs.map λw=>(q07 w).1),o&&xs.all (λw=>(q07 w).2)):=by
 have h':=q0e (φ:=pi_f) (ψ:=pi_g) (λ_=>rfl) (λ_=>rfl) (λd _=>pi_RF d) pi_P xs (n,o,()) rfl (by show xs.length<=maxLen;unfold KS at hx;unfold maxLen;omega) ⟨by rw[hn];exact Int.le_refl _,hx,hz⟩;show loopF pi_RR pi_M (pi_g (0,xs,(n,o,())))=_;rw[h'];show((scan 0 (pi_S xs) 0 xs (n,o,())).1,pi_g ((scan 0 (pi_S xs) 0 xs (n,o,())).2.1,_,(scan 0 (pi_S xs) 0 xs (n,o,())).2.2))=_;rw[pi_scan,Int.zero_add,hn,List.nil_append];rfl
def ltN27:LTab Tryd.prog:=ltN21.cons 14 11 (pi_C pi_I pi_M) pi_ok
abbrev lamN27:Lam:=ltN27.lam
theorem q9o:∀f k L,lamN27 f k=some L->∀b∈q00 Tryd.prog f,lkey b=k->q04 Tryd.prog b L.g:=ltN27.ok
def tabN27:MTab Tryd.prog:=tabN25.cons 13 (pconR aB dDE q2v (λs=>[s.size<=KP])) (q7k psn_ok)
abbrev rvNd:RvE Nd:=.iso (.pair (.pl eI) (.pair (.pl eI) (.pair (.list eI) (.pair (.pl eF) (.pair (.pl eStr) (.pair (.pl eI) (.pl eI))))))) Nd.ofP Nd.toP (λ_=>rfl) (λ_=>rfl)
abbrev rDE:Rv (Nd×Int):=.tup (.cons (.agg rvNd) (.one (.of dI)))
def q5k(s:BA):Int×Bool:=
 q07 ((Lp.splS (59:Int) s).getD (0:Nat) eStr.dflt)
def q5j(s:BA):Int×Bool:=
 q07 ((Lp.splS (59:Int) s).getD (1:Nat) eStr.dflt)
def q49(s:BA):Ex×
 pi_G:=
 loopF (λg=>pi_R g.fst g.snd.fst g.snd.snd.fst g.snd.snd.snd.fst g.snd.snd.snd.snd) pi_M (eStr.ag (Lp.splS (44:Int) ((Lp.splS (59:Int) s).getD (2:Nat) eStr.dflt)),(0:Int),(),Nd.mk (0:Int) (0:Int) [] (Fn.mk (0:Int) (0:Int) (ByteArray.mk #[])) (ByteArray.mk #[]) (0:Int) (0:Int),(q5k s).snd&&(q5j s).snd)
def q6r(s:BA):Int×Bool:=
 q07 ((Lp.splS (59:Int) s).getD (3:Nat) eStr.dflt)
def q6q(s:BA):Int×Bool:=
 q07 ((Lp.splS (59:Int) s).getD (4:Nat) eStr.dflt)
def q6p(s:BA):BA×Bool:=
 q0v ((Lp.splS (59:Int) s).getD (5:Nat) eStr.dflt)
def q6o(s:BA):BA×Bool:=
 q0v ((Lp.splS (59:Int) s).getD (6:Nat) eStr.dflt)
def q6n(s:BA):Int×Bool:=
 q07 ((Lp.splS (59:Int) s).getD (7:Nat) eStr.dflt)
def q6m(s:BA):Int×Bool:=
 q07 ((Lp.splS (59:Int) s).getD (8:Nat) eStr.dflt)
def rps_F(s:BA):Rv.T rDE:=
 bif (↑(Lp.splS (59:Int) s).length:Int)!=(9:Int)then(Nd.mk (0:Int) (0:Int) [] (Fn.mk (0:Int) (0:Int) (ByteArray.mk #[])) (ByteArray.mk #[]) (0:Int) (0:Int),(271:Int))
 else bif !decide ((Lp.splS (59:Int) s).getD (2:Nat) eStr.dflt=ByteArray.mk #[(45:UInt8)])then bif !(q49 s).snd.snd.snd.snd.snd||(!(q6r s).snd||(!(q6q s).snd||(!(q6p s).snd||(!(q6o s).snd||(!(q6n s).snd||(!(q6m s).snd||chkD (Nd.mk (q5k s).fst (q5j s).fst (eI.ag (q49 s).snd.snd.snd.snd.fst.ins) (Fn.mk (q6r s).fst (q6q s).fst (q6p s).fst) (q6o s).fst (q6n s).fst (q6m s).fst)!=(0:Int)))))))then(Nd.mk (0:Int) (0:Int) [] (Fn.mk (0:Int) (0:Int) (ByteArray.mk #[])) (ByteArray.mk #[]) (0:Int) (0:Int),(271:Int))else(Nd.mk (q5k s).fst (q5j s).fst (eI.ag (q49 s).snd.snd.snd.snd.fst.ins) (Fn.mk (q6r s).fst (q6q s).fst (q6p s).fst) (q6o s).fst (q6n s).fst (q6m s).fst,(0:Int))else bif !((q5k s).snd&&(q5j s).snd)||(!(q6r s).snd||(!(q6q s).snd||(!(q6p s).snd||(!(q6o s).snd||(!(q6n s).snd||(!(q6m s).snd||chkD (Nd.mk (q5k s).fst (q5j s).fst [] (Fn.mk (q6r s).fst (q6q s).fst (q6p s).fst) (q6o s).fst (q6n s).fst (q6m s).fst)!=(0:Int)))))))then(Nd.mk (0:Int) (0:Int) [] (Fn.mk (0:Int) (0:Int) (ByteArray.mk #[])) (ByteArray.mk #[]) (0:Int) (0:Int),(271:Int))else(Nd.mk (q5k s).fst (q5j s).fst [] (Fn.mk (q6r s).fst (q6q s).fst (q6p s).fst) (q6o s).fst (q6n s).fst (q6m s).fst,(0:Int))
def qbq(s:BA):Prop:=
 ByteArray.size s<=KS/\(((↑(Lp.splS (59:Int) s).length:Int)!=(9:Int))=false->((0:Int)<=(0:Int)/\(0:Int)<(↑(Lp.splS (59:Int) s).length:Int))/\((Lp.splS (59:Int) s).getD (0:Nat) eStr.dflt).size<=KB/\((0:Int)<=(1:Int)/\(1:Int)<(↑(Lp.splS (59:Int) s).length:Int))/\((Lp.splS (59:Int) s).getD (1:Nat) eStr.dflt).size<=KB/\((0:Int)<=(2:Int)/\(2:Int)<(↑(Lp.splS (59:Int) s).length:Int))/\((!decide ((Lp.splS (59:Int) s).getD (2:Nat) eStr.dflt=ByteArray.mk #[(45:UInt8)]))=true->((0:Int)<=(2:Int)/\(2:Int)<(↑(Lp.splS (59:Int) s).length:Int))/\((Lp.splS (59:Int) s).getD (2:Nat) eStr.dflt).size<=KS/\eStr.okL (Lp.splS (44:Int) ((Lp.splS (59:Int) s).getD (2:Nat) eStr.dflt))/\Lp.ixJ pi_lim pi_xs pi_K (pi_f (eStr.ag (Lp.splS (44:Int) ((Lp.splS (59:Int) s).getD (2:Nat) eStr.dflt)),(0:Int),(),Nd.mk (0:Int) (0:Int) [] (Fn.mk (0:Int) (0:Int) (ByteArray.mk #[])) (ByteArray.mk #[]) (0:Int) (0:Int),(q5k s).snd&&(q5j s).snd))/\((0:Int)<=(3:Int)/\(3:Int)<(↑(Lp.splS (59:Int) s).length:Int))/\((Lp.splS (59:Int) s).getD (3:Nat) eStr.dflt).size<=KB/\((0:Int)<=(4:Int)/\(4:Int)<(↑(Lp.splS (59:Int) s).length:Int))/\((Lp.splS (59:Int) s).getD (4:Nat) eStr.dflt).size<=KB/\((0:Int)<=(5:Int)/\(5:Int)<(↑(Lp.splS (59:Int) s).length:Int))/\((Lp.splS (59:Int) s).getD (5:Nat) eStr.dflt).size<=KT/\((0:Int)<=(6:Int)/\(6:Int)<(↑(Lp.splS (59:Int) s).length:Int))/\((Lp.splS (59:Int) s).getD (6:Nat) eStr.dflt).size<=KT/\((0:Int)<=(7:Int)/\(7:Int)<(↑(Lp.splS (59:Int) s).length:Int))/\((Lp.splS (59:Int) s).getD (7:Nat) eStr.dflt).size<=KB/\((0:Int)<=(8:Int)/\(8:Int)<(↑(Lp.splS (59:Int) s).length:Int))/\((Lp.splS (59:Int) s).getD (8:Nat) eStr.dflt).size<=KB/\((!!(q49 s).snd.snd.snd.snd.snd)=true->(!!(q6r s).snd)=true->(!!(q6q s).snd)=true->(!!(q6p s).snd)=true->(!!(q6o s).snd)=true->(!!(q6n s).snd)=true->(!!(q6m s).snd)=true->(q49 s).snd.snd.snd.snd.fst.ins.length<=(q49 s).snd.snd.snd.snd.fst.ins.length)/\((!!(q49 s).snd.snd.snd.snd.snd)=true->(!!(q6r s).snd)=true->(!!(q6q s).snd)=true->(!!(q6p s).snd)=true->(!!(q6o s).snd)=true->(!!(q6n s).snd)=true->(!!(q6m s).snd)=true->∀(e:Nat),e<(q49 s).snd.snd.snd.snd.fst.ins.length->eI.Ok ((ElE.fn (eI.els (q49 s).snd.snd.snd.snd.fst.ins)).at e))/\((!(q49 s).snd.snd.snd.snd.snd||(!(q6r s).snd||(!(q6q s).snd||(!(q6p s).snd||(!(q6o s).snd||(!(q6n s).snd||(!(q6m s).snd||chkD (Nd.mk (q5k s).fst (q5j s).fst (eI.ag (q49 s).snd.snd.snd.snd.fst.ins) (Fn.mk (q6r s).fst (q6q s).fst (q6p s).fst) (q6o s).fst (q6n s).fst (q6m s).fst)!=(0:Int))))))))=false->(q49 s).snd.snd.snd.snd.fst.ins.length<=(q49 s).snd.snd.snd.snd.fst.ins.length/\∀(e:Nat),e<(q49 s).snd.snd.snd.snd.fst.ins.length->True))/\((!decide ((Lp.splS (59:Int) s).getD (2:Nat) eStr.dflt=ByteArray.mk #[(45:UInt8)]))=false->((0:Int)<=(3:Int)/\(3:Int)<(↑(Lp.splS (59:Int) s).length:Int))/\((Lp.splS (59:Int) s).getD (3:Nat) eStr.dflt).size<=KB/\((0:Int)<=(4:Int)/\(4:Int)<(↑(Lp.splS (59:Int) s).length:Int))/\((Lp.splS (59:Int) s).getD (4:Nat) eStr.dflt).size<=KB/\((0:Int)<=(5:Int)/\(5:Int)<(↑(Lp.splS (59:Int) s).length:Int))/\((Lp.splS (59:Int) s).getD (5:Nat) eStr.dflt).size<=KT/\((0:Int)<=(6:Int)/\(6:Int)<(↑(Lp.splS (59:Int) s).length:Int))/\((Lp.splS (59:Int) s).getD (6:Nat) eStr.dflt).size<=KT/\((0:Int)<=(7:Int)/\(7:Int)<(↑(Lp.splS (59:Int) s).length:Int))/\((Lp.splS (59:Int) s).getD (7:Nat) eStr.dflt).size<=KB/\((0:Int)<=(8:Int)/\(8:Int)<(↑(Lp.splS (59:Int) s).length:Int))/\((Lp.splS (59:Int) s).getD (8:Nat) eStr.dflt).size<=KB))
theorem rps_okS(pre:DA.T aB->List Prop)(h:∀g,DA.bd aB g->(∀p∈pre g,p)->qbq g):FnPure Tryd.prog 14 aB (Rv.D rDE) (λg=>rps_F g) pre:=q68 (R:=rDE) (Γ:=(MTab.gamz tabN27 [] [])) (Λ:=lamN27) (MTab.okz tabN27 [] []) q9o 100 default (λg=>qbq g) (λg=>by kernel_rfl) (λg=>by kernel_rfl) h
theorem splS_getD(c:Int)(s:BA)(k:Nat):(pcN (splS c s) k).size<=s.size:=by
 rcases Nat.lt_or_ge k (splS c s).length with h|h
 .exact q7r (pcN_mem h)
 .unfold pcN;rw[List.getD_eq_getElem?_getD,List.getElem?_eq_none h];exact Nat.zero_le _
theorem fin7(c c4 c5 c6 c7 c8 c9:Bool)(N M:Nd)(h:(c&&c4&&c5&&c6&&c7&&c8&&c9)=true->N=M):(bif !c||(!c4||(!c5||(!c6||(!c7||(!c8||(!c9||chkD N !=(0:Int)))))))then(nd0,(271:Int))else(N,(0:Int)))=bif (c&&c4&&c5&&c6&&c7&&c8&&c9)&&decide (chkD M=0)then(M,(0:Int))else(nd0,(271:Int)):=by
 cases hc:(c&&c4&&c5&&c6&&c7&&c8&&c9)with
 |true=>
  rw[h hc];simp only[Bool.and_eq_true]at hc;obtain⟨⟨⟨⟨⟨⟨h1,h2⟩,h3⟩,h4⟩,h5⟩,h6⟩,h7⟩:=hc;rw[h1,h2,h3,h4,h5,h6,h7,chkD_out];cases decide (chkD M=0)<;>rfl
 |false=>
  clear h;revert hc;cases c
  .intro _;rfl
  cases c4
  .intro _;rfl
  cases c5
  .intro _;rfl
  cases c6
  .intro _;rfl
  cases c7
  .intro _;rfl
  cases c8
  .intro _;rfl
  cases c9
  .intro _;rfl
  intro h;cases h
theorem rps_q3_eq(s:BA)(hs:s.size<=KP):q49 s=(.exit 0,splS 44 (pcN (splS 59 s) 2),((splS 44 (pcN (splS 59 s) 2)).length:Int),(),withI nd0 ((splS 44 (pcN (splS 59 s) 2)).map λw=>(q07 w).1),((q5k s).2&&(q5j s).2)&&(splS 44 (pcN (splS 59 s) 2)).all λw=>(q07 w).2):=by
 have hw:=splS_getD 59 s 2;unfold KP at hs;have hl:=q59 44 (pcN (splS 59 s) 2);unfold q49;rw[El.ag_eq]
 exact pi_run (splS 44 (pcN (splS 59 s) 2)) nd0 ((q5k s).2&&(q5j s).2) rfl (by unfold KS;omega) λx hx=>by
  have:=q7r hx;unfold KB;omega
theorem rps_side_ok(s:BA)(hs:s.size<=KP):qbq s:=by
 have hw:=splS_getD 59 s;have hl:=q59 44 (pcN (splS 59 s) 2);have z2:=hw 2;unfold KP at hs
 have hJ:Lp.ixJ pi_lim pi_xs pi_K (0,splS 44 (pcN (splS 59 s) 2),(nd0,((q5k s).2&&(q5j s).2),())):=ixJ0 (lim:=pi_lim) (xs:=pi_xs) (P:=pi_K) (c:=splS 44 (pcN (splS 59 s) 2)) (b:=(nd0,((q5k s).2&&(q5j s).2),())) rfl (by show(splS 44 (pcN (splS 59 s) 2)).length<=maxLen;unfold maxLen;omega) ⟨Int.le_refl _,by show(splS 44 (pcN (splS 59 s) 2)).length<=KS+1;unfold KS;omega,λx hx=>by
  have:=q7r hx;unfold KB;omega⟩
 unfold qbq;simp only[El.okL_eq,El.ag_eq];have e:∀k,(splS 59 s).getD k eStr.dflt=pcN (splS 59 s) k:=λ_=>rfl;simp only[e];refine⟨by unfold KS;omega,λhc=>?_⟩;have hn:((splS 59 s).length:Int)=9:=by simpa using hc
 rw[hn];have z0:=hw 0;have z1:=hw 1;have z3:=hw 3;have z4:=hw 4;have z5:=hw 5;have z6:=hw 6;have z7:=hw 7;have z8:=hw 8;generalize q49 s=q3;generalize q6r s=q4;generalize q6q s=q5;generalize q6p s=q6;generalize q6o s=q7;generalize q6n s=q8;generalize q6m s=q9;have i9:∀k:Int,0<=k->k<9->0<=k/\k<9:=λ_ a b=>⟨a,b⟩;have kb:∀k,(pcN (splS 59 s) k).size<=KB:=λk=>by have:=hw k;unfold KB;omega
 have kt:∀k,(pcN (splS 59 s) k).size<=KT:=λk=>by have:=hw k;unfold KT;omega
 refine⟨by decide,kb 0,by decide,kb 1,by decide,λ_=>⟨by decide,by unfold KS;omega,trivial,hJ,by decide,kb 3,by decide,kb 4,by decide,kt 5,by decide,kt 6,by decide,kb 7,by decide,kb 8,λ_ _ _ _ _ _ _=>Nat.le_refl _,λ_ _ _ _ _ _ _ e _=>eI.ok_els _ e,λ_=>⟨Nat.le_refl _,λ_ _=>trivial⟩⟩,λ_=>⟨by decide,kb 3,by decide,kb 4,by decide,kt 5,by decide,kt 6,by decide,kb 7,by decide,kb 8⟩⟩
theorem rps_F_eq(s:BA)(hs:s.size<=KP):rps_F s=q2v s:=by
 have hq:=rps_q3_eq s hs;unfold rps_F q2v;rw[hq];simp only[El.ag_eq];by_cases hl:(splS 59 s).length=9
 .have e1:(((splS 59 s).length:Int)!=(9:Int))=false:=by rw[hl];rfl
  rw[e1,decide_eq_true hl,cond_false,Bool.true_and];have hk:q6t (splS 59 s)=((q5k s).2&&(q5j s).2&&(listZ (pcN (splS 59 s) 2)).2&&(q6r s).2&&(q6q s).2&&(q6p s).2&&(q6o s).2&&(q6n s).2&&(q6m s).2):=rfl;by_cases hm:pcN (splS 59 s) 2=bM
  .have hm':decide ((splS 59 s).getD 2 eStr.dflt=ByteArray.mk #[(45:UInt8)])=true:=decide_eq_true hm;have hz:listZ (pcN (splS 59 s) 2)=([],true):=by rw[hm];rfl
   rw[hm',Bool.not_true,cond_false];rw[hz,Bool.and_true]at hk;rw[hk];refine fin7 _ _ _ _ _ _ _ _ _ λh=>?_;rw[<-hk]at h;unfold q6t at h;simp only[Bool.and_eq_true]at h;obtain⟨⟨⟨⟨⟨⟨⟨⟨h0,h1⟩,h2⟩,h3⟩,h4⟩,h5⟩,h6⟩,h7⟩,h8⟩:=h;have hv:listV (pcN (splS 59 s) 2)=[]:=by rw[listV_ok h2,hz]
   unfold q5s;rw[hv,q3x h0,q3x h1,q3x h3,q3x h4,q3x h7,q3x h8];rfl
  .have hm':decide ((splS 59 s).getD 2 eStr.dflt=ByteArray.mk #[(45:UInt8)])=false:=decide_eq_false hm
   have hz:listZ (pcN (splS 59 s) 2)=((splS 44 (pcN (splS 59 s) 2)).map λw=>(q07 w).1,(splS 44 (pcN (splS 59 s) 2)).all λw=>(q07 w).2):=by
    unfold listZ;rw[decide_eq_false hm];rfl
   rw[hm',Bool.not_false,cond_true];rw[hz]at hk;rw[hk];refine fin7 _ _ _ _ _ _ _ _ _ λh=>?_;rw[<-hk]at h;unfold q6t at h;simp only[Bool.and_eq_true]at h;obtain⟨⟨⟨⟨⟨⟨⟨⟨h0,h1⟩,h2⟩,h3⟩,h4⟩,h5⟩,h6⟩,h7⟩,h8⟩:=h;have hv:listV (pcN (splS 59 s) 2)=(splS 44 (pcN (splS 59 s) 2)).map λw=>(q07 w).1:=by rw[listV_ok h2,hz]
   unfold q5s;rw[hv,q3x h0,q3x h1,q3x h3,q3x h4,q3x h7,q3x h8];rfl
 .have e1:(((splS 59 s).length:Int)!=(9:Int))=true:=by
   rw[bne_iff_ne];omega
  rw[e1,decide_eq_false hl];rfl
theorem rps_ok:FnPure Tryd.prog 14 aB dDE q2v (λs=>[s.size<=KP]):=
 q0d (rps_okS _ λr _ hp=>rps_side_ok r (hp _ (List.mem_cons_self ..))) λr _ hp=>rps_F_eq r (hp _ (List.mem_cons_self ..))
def tabN29:MTab Tryd.prog:=tabN27.cons 14 (pconR aB dDE q2v (λs=>[s.size<=KP])) (q7k rps_ok)
def rchk_F(r:Rec):Dv.T dI:=
 bif decide ((↑(ByteArray.size r.text):Int)>(64:Int))||!Lib.validD r.text.data.toList then(50:Int)
 else(0:Int)
def q9d(r:Rec):Prop:=
 (!decide ((↑(ByteArray.size r.text):Int)>(64:Int)))=true->ByteArray.size r.text<=KB
theorem rchk_okS(pre:DA.T aR->List Prop)(h:∀g,DA.bd aR g->(∀p∈pre g,p)->q9d g):FnPure Tryd.prog 69 aR dI (λg=>rchk_F g) pre:=q05 (Γ:=(MTab.gamz tabN29 [] [])) (Λ:=lamN27) (MTab.okz tabN29 [] []) q9o 100 default (λg=>q9d g) (λg=>by kernel_rfl) (λg=>by kernel_rfl) h
abbrev tx_G:Type:=Unit×Rec×Int×Int×List Int
def tx_LP:LP 2 tx_G:=.pair (.fix 2 1 (.p 0 0)) (.pair (.obj 2 0 63 eR) (.pair (.slot 2 16 dI) (.pair (.slot 2 17 dI) (.row 2 3 5 e8u))))
def tx_R(_u:Unit)(r:Rec)(n:Int)(i:Int)(b:List Int):Ex×tx_G:=
 bif decide (i<n)then(Ex.normal,(),r,n,IntKind.i64.wrap (i+(1:Int)),bif decide ((↑(ByteArray.get! r.text i.toNat).toNat:Int)>(32:Int))&&(decide ((↑(ByteArray.get! r.text i.toNat).toNat:Int)<(127:Int))&&(↑(ByteArray.get! r.text i.toNat).toNat:Int)!=(37:Int))then e8u.lst (min (bif decide ((↑(ByteArray.get! r.text i.toNat).toNat:Int)>(32:Int))&&(decide ((↑(ByteArray.get! r.text i.toNat).toNat:Int)<(127:Int))&&(↑(ByteArray.get! r.text i.toNat).toNat:Int)!=(37:Int))then b.length+(1:Nat)else b.length+(3:Nat)) b.length) (e8u.els b)++List.map (λx=>(↑(ByteArray.get! r.text i.toNat).toNat:Int)) (List.range ((bif decide ((↑(ByteArray.get! r.text i.toNat).toNat:Int)>(32:Int))&&(decide ((↑(ByteArray.get! r.text i.toNat).toNat:Int)<(127:Int))&&(↑(ByteArray.get! r.text i.toNat).toNat:Int)!=(37:Int))then b.length+(1:Nat)else b.length+(3:Nat))-b.length))else e8u.lst (min (bif decide ((↑(ByteArray.get! r.text i.toNat).toNat:Int)>(32:Int))&&(decide ((↑(ByteArray.get! r.text i.toNat).toNat:Int)<(127:Int))&&(↑(ByteArray.get! r.text i.toNat).toNat:Int)!=(37:Int))then b.length+(1:Nat)else b.length+(3:Nat)) b.length) (e8u.els b)++(List.map (λx=>(37:Int)) (List.range (min ((bif decide ((↑(ByteArray.get! r.text i.toNat).toNat:Int)>(32:Int))&&(decide ((↑(ByteArray.get! r.text i.toNat).toNat:Int)<(127:Int))&&(↑(ByteArray.get! r.text i.toNat).toNat:Int)!=(37:Int))then b.length+(1:Nat)else b.length+(3:Nat))-b.length) (1:Nat)))++(List.map (λx=>(↑((ByteArray.mk #[(48:UInt8),(49:UInt8),(50:UInt8),(51:UInt8),(52:UInt8),(53:UInt8),(54:UInt8),(55:UInt8),(56:UInt8),(57:UInt8),(97:UInt8),(98:UInt8),(99:UInt8),(100:UInt8),(101:UInt8),(102:UInt8)]).get! (iShr IntKind.u8 (↑(ByteArray.get! r.text i.toNat).toNat:Int) (4:Int)).toNat).toNat:Int)) (List.range (min ((bif decide ((↑(ByteArray.get! r.text i.toNat).toNat:Int)>(32:Int))&&(decide ((↑(ByteArray.get! r.text i.toNat).toNat:Int)<(127:Int))&&(↑(ByteArray.get! r.text i.toNat).toNat:Int)!=(37:Int))then b.length+(1:Nat)else b.length+(3:Nat))-b.length-(1:Nat)) (1:Nat)))++List.map (λx=>(↑((ByteArray.mk #[(48:UInt8),(49:UInt8),(50:UInt8),(51:UInt8),(52:UInt8),(53:UInt8),(54:UInt8),(55:UInt8),(56:UInt8),(57:UInt8),(97:UInt8),(98:UInt8),(99:UInt8),(100:UInt8),(101:UInt8),(102:UInt8)]).get! (iAnd IntKind.u8 (↑(ByteArray.get! r.text i.toNat).toNat:Int) (15:Int)).toNat).toNat:Int)) (List.range ((bif decide ((↑(ByteArray.get! r.text i.toNat).toNat:Int)>(32:Int))&&(decide ((↑(ByteArray.get! r.text i.toNat).toNat:Int)<(127:Int))&&(↑(ByteArray.get! r.text i.toNat).toNat:Int)!=(37:Int))then b.length+(1:Nat)else b.length+(3:Nat))-b.length-(1:Nat)-(1:Nat))))))
 else(Ex.exit (0:Nat),(),r,n,i,e8u.ag b)
def tx_side(_u:Unit)(r:Rec)(n:Int)(i:Int)(b:List Int):Prop:=
 (decide (i<n)=true->((0:Int)<=i/\i<(↑(ByteArray.size r.text):Int))/\((decide ((↑(ByteArray.get! r.text i.toNat).toNat:Int)>(32:Int))&&(decide ((↑(ByteArray.get! r.text i.toNat).toNat:Int)<(127:Int))&&(↑(ByteArray.get! r.text i.toNat).toNat:Int)!=(37:Int)))=true->b.length<=b.length/\True/\b.length+(1:Nat)<=maxLen/\(b.length+(1:Nat))*Tryd.prog.types[(5:Nat)].bytes<=(140737488355328:Nat))/\((!(decide ((↑(ByteArray.get! r.text i.toNat).toNat:Int)>(32:Int))&&(decide ((↑(ByteArray.get! r.text i.toNat).toNat:Int)<(127:Int))&&(↑(ByteArray.get! r.text i.toNat).toNat:Int)!=(37:Int))))=true->(0:Int)<=iShr IntKind.u8 (↑(ByteArray.get! r.text i.toNat).toNat:Int) (4:Int)/\iShr IntKind.u8 (↑(ByteArray.get! r.text i.toNat).toNat:Int) (4:Int)<(16:Int))/\((!(decide ((↑(ByteArray.get! r.text i.toNat).toNat:Int)>(32:Int))&&(decide ((↑(ByteArray.get! r.text i.toNat).toNat:Int)<(127:Int))&&(↑(ByteArray.get! r.text i.toNat).toNat:Int)!=(37:Int))))=true->(0:Int)<=iAnd IntKind.u8 (↑(ByteArray.get! r.text i.toNat).toNat:Int) (15:Int)/\iAnd IntKind.u8 (↑(ByteArray.get! r.text i.toNat).toNat:Int) (15:Int)<(16:Int))/\((!(decide ((↑(ByteArray.get! r.text i.toNat).toNat:Int)>(32:Int))&&(decide ((↑(ByteArray.get! r.text i.toNat).toNat:Int)<(127:Int))&&(↑(ByteArray.get! r.text i.toNat).toNat:Int)!=(37:Int))))=true->b.length<=b.length/\True/\b.length+(3:Nat)<=maxLen/\(b.length+(3:Nat))*Tryd.prog.types[(5:Nat)].bytes<=(140737488355328:Nat))/\((bif decide ((↑(ByteArray.get! r.text i.toNat).toNat:Int)>(32:Int))&&(decide ((↑(ByteArray.get! r.text i.toNat).toNat:Int)<(127:Int))&&(↑(ByteArray.get! r.text i.toNat).toNat:Int)!=(37:Int))then b.length+(1:Nat)else b.length+(3:Nat))<=bif decide ((↑(ByteArray.get! r.text i.toNat).toNat:Int)>(32:Int))&&(decide ((↑(ByteArray.get! r.text i.toNat).toNat:Int)<(127:Int))&&(↑(ByteArray.get! r.text i.toNat).toNat:Int)!=(37:Int))then b.length+(1:Nat)else b.length+(3:Nat))/\(∀(e:Nat),e<min (bif decide ((↑(ByteArray.get! r.text i.toNat).toNat:Int)>(32:Int))&&(decide ((↑(ByteArray.get! r.text i.toNat).toNat:Int)<(127:Int))&&(↑(ByteArray.get! r.text i.toNat).toNat:Int)!=(37:Int))then b.length+(1:Nat)else b.length+(3:Nat)) b.length->True)/\(∀(e:Nat),e<(bif decide ((↑(ByteArray.get! r.text i.toNat).toNat:Int)>(32:Int))&&(decide ((↑(ByteArray.get! r.text i.toNat).toNat:Int)<(127:Int))&&(↑(ByteArray.get! r.text i.toNat).toNat:Int)!=(37:Int))then b.length+(1:Nat)else b.length+(3:Nat))-b.length->True)/\(∀(e:Nat),e<min (bif decide ((↑(ByteArray.get! r.text i.toNat).toNat:Int)>(32:Int))&&(decide ((↑(ByteArray.get! r.text i.toNat).toNat:Int)<(127:Int))&&(↑(ByteArray.get! r.text i.toNat).toNat:Int)!=(37:Int))then b.length+(1:Nat)else b.length+(3:Nat)) b.length->True)/\(∀(e:Nat),e<min ((bif decide ((↑(ByteArray.get! r.text i.toNat).toNat:Int)>(32:Int))&&(decide ((↑(ByteArray.get! r.text i.toNat).toNat:Int)<(127:Int))&&(↑(ByteArray.get! r.text i.toNat).toNat:Int)!=(37:Int))then b.length+(1:Nat)else b.length+(3:Nat))-b.length) (1:Nat)->True)/\(∀(e:Nat),e<min ((bif decide ((↑(ByteArray.get! r.text i.toNat).toNat:Int)>(32:Int))&&(decide ((↑(ByteArray.get! r.text i.toNat).toNat:Int)<(127:Int))&&(↑(ByteArray.get! r.text i.toNat).toNat:Int)!=(37:Int))then b.length+(1:Nat)else b.length+(3:Nat))-b.length-(1:Nat)) (1:Nat)->True)/\∀(e:Nat),e<(bif decide ((↑(ByteArray.get! r.text i.toNat).toNat:Int)>(32:Int))&&(decide ((↑(ByteArray.get! r.text i.toNat).toNat:Int)<(127:Int))&&(↑(ByteArray.get! r.text i.toNat).toNat:Int)!=(37:Int))then b.length+(1:Nat)else b.length+(3:Nat))-b.length-(1:Nat)-(1:Nat)->True)/\(decide (i<n)=false->b.length<=b.length/\∀(e:Nat),e<b.length->True)
theorem tx_one:((q00 Tryd.prog 46).filter λc=>Nat.beq (lkey c) 5).length=1:=by kernel_rfl
abbrev tx_GC:Type:=Rec×Int
abbrev tx_GB:Type:=Unit×List Int
def tx_f(g:tx_G):Int×tx_GC×tx_GB:=(g.2.2.2.1,(g.2.1,g.2.2.1),(g.1,g.2.2.2.2))
def tx_g(d:Int×tx_GC×tx_GB):tx_G:=(d.2.2.1,d.2.1.1,d.2.1.2,d.1,d.2.2.2)
abbrev tx_rr(g:tx_G):Ex×tx_G:=tx_R g.1 g.2.1 g.2.2.1 g.2.2.2.1 g.2.2.2.2
abbrev tx_ss(g:tx_G):Prop:=tx_side g.1 g.2.1 g.2.2.1 g.2.2.2.1 g.2.2.2.2
theorem tx_es(g:tx_G):(tx_rr g).1=.normal\/(tx_rr g).1∈([.exit 0]:List Ex):=by
 unfold tx_rr tx_R
 repeat' (first|(left;rfl)|(right;simp only[cond_true,cond_false];simp;done)|(rw[Bool.cond_eq_ite];split))
abbrev tx_C(Inv:tx_G->List Prop)(m:tx_G->Nat):LCon:=loopR [.exit 0] (loopBody Tryd.prog 46 5) tx_LP [] 50 Inv tx_rr m
theorem tx_loop(Inv:tx_G->List Prop)(m:tx_G->Nat)(hs:∀g,allP (Inv g)->tx_ss g)(hg:Goes tx_rr m λg=>allP (Inv g)):∀b∈q00 Tryd.prog 46,lkey b=5->q04 Tryd.prog b (tx_C Inv m).g:=q0h (Γ:=(MTab.gamz tabN29 [] [])) (Λ:=lamN27) (MTab.okz tabN29 [] []) q9o 100 46 5 50 tx_LP [] Inv tx_rr tx_ss m default [.exit 0] tx_one (λrd T B HL HB ds g=>by kernel_rfl) (λrd T B HL HB ds g=>by kernel_rfl) hs hg tx_es
abbrev ps_G:Type:=Unit×Rec×BA×List Int×Int
def ps_LP:LP 1 ps_G:=.pair (.fix 1 2 (.p 0 0)) (.pair (.obj 1 0 63 eR) (.pair (.slot 1 5 dStr) (.pair (.row 1 9 5 e8u) (.slot 1 3 dI))))
def ps_R(_u:Unit)(w:Rec)(s:BA)(b:List Int)(e:Int):Ex×ps_G:=
 bif !decide (s=ByteArray.mk #[])then bif !(↑(ByteArray.get! s (0:Nat)).toNat:Int)!=(37:Int)&&decide ((↑(ByteArray.size s):Int)<(3:Int))then(Ex.ret,(),Rec.mk (0:Int) (ByteArray.mk #[]),s,e8u.ag b,(50:Int))else bif !(↑(ByteArray.get! s (0:Nat)).toNat:Int)!=(37:Int)&&(decide (Lib.indexByte #[(48:UInt8),(49:UInt8),(50:UInt8),(51:UInt8),(52:UInt8),(53:UInt8),(54:UInt8),(55:UInt8),(56:UInt8),(57:UInt8),(97:UInt8),(98:UInt8),(99:UInt8),(100:UInt8),(101:UInt8),(102:UInt8)].toList (↑(ByteArray.get! s (1:Nat)).toNat:Int).toNat.toUInt8<(0:Int))||decide (Lib.indexByte #[(48:UInt8),(49:UInt8),(50:UInt8),(51:UInt8),(52:UInt8),(53:UInt8),(54:UInt8),(55:UInt8),(56:UInt8),(57:UInt8),(97:UInt8),(98:UInt8),(99:UInt8),(100:UInt8),(101:UInt8),(102:UInt8)].toList (↑(ByteArray.get! s (2:Nat)).toNat:Int).toNat.toUInt8<(0:Int)))then(Ex.ret,(),Rec.mk (0:Int) (ByteArray.mk #[]),s,e8u.ag b,(50:Int))else(Ex.normal,(),w,bif (↑(ByteArray.get! s (0:Nat)).toNat:Int)!=(37:Int)then ByteArray.extract s (1:Nat) (ByteArray.size s)else ByteArray.extract s (3:Nat) (ByteArray.size s),bif (↑(ByteArray.get! s (0:Nat)).toNat:Int)!=(37:Int)then e8u.lst (min (bif (↑(ByteArray.get! s (0:Nat)).toNat:Int)!=(37:Int)then b.length+(1:Nat)else b.length+(1:Nat)) b.length) (e8u.els b)++List.map (λx=>(↑(ByteArray.get! s (0:Nat)).toNat:Int)) (List.range ((bif (↑(ByteArray.get! s (0:Nat)).toNat:Int)!=(37:Int)then b.length+(1:Nat)else b.length+(1:Nat))-b.length))else e8u.lst (min (bif (↑(ByteArray.get! s (0:Nat)).toNat:Int)!=(37:Int)then b.length+(1:Nat)else b.length+(1:Nat)) b.length) (e8u.els b)++List.map (λx=>IntKind.u8.wrap (iOr IntKind.i64 (iShl IntKind.i64 (Lib.indexByte #[(48:UInt8),(49:UInt8),(50:UInt8),(51:UInt8),(52:UInt8),(53:UInt8),(54:UInt8),(55:UInt8),(56:UInt8),(57:UInt8),(97:UInt8),(98:UInt8),(99:UInt8),(100:UInt8),(101:UInt8),(102:UInt8)].toList (↑(ByteArray.get! s (1:Nat)).toNat:Int).toNat.toUInt8) (4:Int)) (Lib.indexByte #[(48:UInt8),(49:UInt8),(50:UInt8),(51:UInt8),(52:UInt8),(53:UInt8),(54:UInt8),(55:UInt8),(56:UInt8),(57:UInt8),(97:UInt8),(98:UInt8),(99:UInt8),(100:UInt8),(101:UInt8),(102:UInt8)].toList (↑(ByteArray.get! s (2:Nat)).toNat:Int).toNat.toUInt8))) (List.range ((bif (↑(ByteArray.get! s (0:Nat)).toNat:Int)!=(37:Int)then b.length+(1:Nat)else b.length+(1:Nat))-b.length)),e)
 else(Ex.exit (0:Nat),(),w,s,e8u.ag b,e)
def ps_side(_u:Unit)(w:Rec)(s:BA)(b:List Int)(e:Int):Prop:=
 ((!decide (s=ByteArray.mk #[]))=true->((0:Int)<=(0:Int)/\(0:Int)<(↑(ByteArray.size s):Int))/\(((↑(ByteArray.get! s (0:Nat)).toNat:Int)!=(37:Int))=true->(0:Int)<=(0:Int)/\(0:Int)<(↑(ByteArray.size s):Int))/\(((↑(ByteArray.get! s (0:Nat)).toNat:Int)!=(37:Int))=true->b.length<=b.length/\True/\b.length+(1:Nat)<=maxLen/\(b.length+(1:Nat))*Tryd.prog.types[(5:Nat)].bytes<=(140737488355328:Nat))/\(((↑(ByteArray.get! s (0:Nat)).toNat:Int)!=(37:Int))=true->ByteArray.size s<=ByteArray.size s)/\(((↑(ByteArray.get! s (0:Nat)).toNat:Int)!=(37:Int))=true->(0:Int)<=(1:Int)/\(1:Int)<=(↑(ByteArray.size s):Int))/\((!(↑(ByteArray.get! s (0:Nat)).toNat:Int)!=(37:Int)&&decide ((↑(ByteArray.size s):Int)<(3:Int)))=true->b.length<=b.length/\∀(e:Nat),e<b.length->True)/\((!(↑(ByteArray.get! s (0:Nat)).toNat:Int)!=(37:Int)&&decide ((↑(ByteArray.size s):Int)<(3:Int)))=false->((!(↑(ByteArray.get! s (0:Nat)).toNat:Int)!=(37:Int))=true->(0:Int)<=(1:Int)/\(1:Int)<(↑(ByteArray.size s):Int))/\((!(↑(ByteArray.get! s (0:Nat)).toNat:Int)!=(37:Int))=true->(0:Int)<=(2:Int)/\(2:Int)<(↑(ByteArray.size s):Int))/\((!(↑(ByteArray.get! s (0:Nat)).toNat:Int)!=(37:Int)&&(decide (Lib.indexByte #[(48:UInt8),(49:UInt8),(50:UInt8),(51:UInt8),(52:UInt8),(53:UInt8),(54:UInt8),(55:UInt8),(56:UInt8),(57:UInt8),(97:UInt8),(98:UInt8),(99:UInt8),(100:UInt8),(101:UInt8),(102:UInt8)].toList (↑(ByteArray.get! s (1:Nat)).toNat:Int).toNat.toUInt8<(0:Int))||decide (Lib.indexByte #[(48:UInt8),(49:UInt8),(50:UInt8),(51:UInt8),(52:UInt8),(53:UInt8),(54:UInt8),(55:UInt8),(56:UInt8),(57:UInt8),(97:UInt8),(98:UInt8),(99:UInt8),(100:UInt8),(101:UInt8),(102:UInt8)].toList (↑(ByteArray.get! s (2:Nat)).toNat:Int).toNat.toUInt8<(0:Int))))=true->b.length<=b.length/\∀(e:Nat),e<b.length->True)/\((!(↑(ByteArray.get! s (0:Nat)).toNat:Int)!=(37:Int)&&(decide (Lib.indexByte #[(48:UInt8),(49:UInt8),(50:UInt8),(51:UInt8),(52:UInt8),(53:UInt8),(54:UInt8),(55:UInt8),(56:UInt8),(57:UInt8),(97:UInt8),(98:UInt8),(99:UInt8),(100:UInt8),(101:UInt8),(102:UInt8)].toList (↑(ByteArray.get! s (1:Nat)).toNat:Int).toNat.toUInt8<(0:Int))||decide (Lib.indexByte #[(48:UInt8),(49:UInt8),(50:UInt8),(51:UInt8),(52:UInt8),(53:UInt8),(54:UInt8),(55:UInt8),(56:UInt8),(57:UInt8),(97:UInt8),(98:UInt8),(99:UInt8),(100:UInt8),(101:UInt8),(102:UInt8)].toList (↑(ByteArray.get! s (2:Nat)).toNat:Int).toNat.toUInt8<(0:Int))))=false->((!(↑(ByteArray.get! s (0:Nat)).toNat:Int)!=(37:Int))=true->b.length<=b.length/\True/\b.length+(1:Nat)<=maxLen/\(b.length+(1:Nat))*Tryd.prog.types[(5:Nat)].bytes<=(140737488355328:Nat))/\((!(↑(ByteArray.get! s (0:Nat)).toNat:Int)!=(37:Int))=true->ByteArray.size s<=ByteArray.size s)/\((!(↑(ByteArray.get! s (0:Nat)).toNat:Int)!=(37:Int))=true->(0:Int)<=(3:Int)/\(3:Int)<=(↑(ByteArray.size s):Int))/\((bif (↑(ByteArray.get! s (0:Nat)).toNat:Int)!=(37:Int)then b.length+(1:Nat)else b.length+(1:Nat))<=bif (↑(ByteArray.get! s (0:Nat)).toNat:Int)!=(37:Int)then b.length+(1:Nat)else b.length+(1:Nat))/\(∀(e:Nat),e<min (bif (↑(ByteArray.get! s (0:Nat)).toNat:Int)!=(37:Int)then b.length+(1:Nat)else b.length+(1:Nat)) b.length->True)/\(∀(e:Nat),e<(bif (↑(ByteArray.get! s (0:Nat)).toNat:Int)!=(37:Int)then b.length+(1:Nat)else b.length+(1:Nat))-b.length->True)/\(∀(e:Nat),e<min (bif (↑(ByteArray.get! s (0:Nat)).toNat:Int)!=(37:Int)then b.length+(1:Nat)else b.length+(1:Nat)) b.length->True)/\∀(e:Nat),e<(bif (↑(ByteArray.get! s (0:Nat)).toNat:Int)!=(37:Int)then b.length+(1:Nat)else b.length+(1:Nat))-b.length->True)))/\((!decide (s=ByteArray.mk #[]))=false->b.length<=b.length/\∀(e:Nat),e<b.length->True)
theorem ps_one:((q00 Tryd.prog 77).filter λc=>Nat.beq (lkey c) 6).length=1:=by kernel_rfl
abbrev ps_rr(g:ps_G):Ex×ps_G:=ps_R g.1 g.2.1 g.2.2.1 g.2.2.2.1 g.2.2.2.2
abbrev ps_ss(g:ps_G):Prop:=ps_side g.1 g.2.1 g.2.2.1 g.2.2.2.1 g.2.2.2.2
theorem ps_es(g:ps_G):(ps_rr g).1=.normal\/(ps_rr g).1∈([.ret,.exit 0]:List Ex):=by
 unfold ps_rr ps_R
 repeat' (first|(left;rfl)|(right;simp only[cond_true,cond_false];simp;done)|(rw[Bool.cond_eq_ite];split))
abbrev ps_C(Inv:ps_G->List Prop)(m:ps_G->Nat):LCon:=loopR [.ret,.exit 0] (loopBody Tryd.prog 77 6) ps_LP [] 85 Inv ps_rr m
theorem ps_loop(Inv:ps_G->List Prop)(m:ps_G->Nat)(hs:∀g,allP (Inv g)->ps_ss g)(hg:Goes ps_rr m λg=>allP (Inv g)):∀b∈q00 Tryd.prog 77,lkey b=6->q04 Tryd.prog b (ps_C Inv m).g:=q0h (Γ:=(MTab.gamz tabN29 [] [])) (Λ:=lamN27) (MTab.okz tabN29 [] []) q9o 100 77 6 85 ps_LP [] Inv ps_rr ps_ss m default [.ret,.exit 0] ps_one (λrd T B HL HB ds g=>by kernel_rfl) (λrd T B HL HB ds g=>by kernel_rfl) hs hg ps_es
theorem escQ1(v:Int):(decide (v>32)&&(decide (v<127)&&v !=37))=escP v:=by
 unfold escP;rw[Bool.eq_iff_iff];simp only[Bool.and_eq_true,decide_eq_true_eq,bne_iff_ne,ne_eq,Bool.not_eq_true',decide_eq_false_iff_not];omega
abbrev tx_xs(c:tx_GC):List Int:=bts c.1.text
abbrev tx_lim(c:tx_GC):Int:=c.2
def tx_S(_:tx_GC)(b:tx_GB)(_:Int)(v:Int):Ex×tx_GB:=(.normal,((),b.2++esc1 v))
def tx_K(c:tx_GC)(b:tx_GB)(i:Int):Prop:=c.1.text.size<=64/\(b.2.length:Int)<=64+3*i
abbrev tx_I(g:tx_G):List Prop:=ixI tx_lim tx_xs tx_K (tx_f g)
abbrev tx_M(g:tx_G):Nat:=ixM tx_lim (tx_f g)
theorem tx_P:ixP tx_S tx_xs tx_K:=λc b i a h _ _=>⟨h.1,by
 have:=h.2;have hl:=(esc1_len a).2;show((b.2++esc1 a).length:Int)<=_;rw[List.length_append];omega⟩
abbrev tx_RR(g:tx_G):Ex×tx_G:=tx_R g.1 g.2.1 g.2.2.1 g.2.2.2.1 g.2.2.2.2
theorem tx_RF(d:Int×tx_GC×tx_GB)(hi:allP (ixI tx_lim tx_xs tx_K d)):tx_RR (tx_g d)=((ixF 0 tx_lim tx_xs 0 tx_S d).1,tx_g (ixF 0 tx_lim tx_xs 0 tx_S d).2):=by
 obtain⟨i,⟨r,n⟩,⟨⟨⟩,b⟩⟩:=d;show tx_R () r n i b=_;unfold tx_R ixF tx_S;simp only[q2y,tx_lim,tx_xs,El.ag_eq];have hv:=q47 r.text i.toNat;generalize (bts r.text).getD i.toNat 0=v at hv;cases decide (i<n)with
 |false=>rfl
 |true=>
  simp only[cond_true,escQ1,esc1];cases escP v with
  |true=>
   simp only[cond_true,if_true];rw[tx_app1];rfl
  |false=>
   simp only[cond_false];have h1:=(hxS hv.1 hv.2).1;have h2:=(hxA hv.1 hv.2).1;rw[h1,h2,Nat.min_eq_right (Nat.le_add_right _ _),Nat.add_sub_cancel_left,e8u.lst_els];rfl
theorem tx_ok:∀b∈q00 Tryd.prog 46,lkey b=5->q04 Tryd.prog b (tx_C tx_I tx_M).g:=by
 refine tx_loop tx_I tx_M (λg hi=>?_) (q09 (φ:=tx_f) (ψ:=tx_g) (λ_=>rfl) (λ_=>rfl) tx_RF tx_P);obtain⟨⟨⟩,r,n,i,b⟩:=g;obtain⟨h1,h2,h3,h4,h5,h6⟩:=hi _ (List.mem_cons_self ..);have h1:n=((bts r.text).length:Int):=h1;have h3:0<=i:=h3;have h5:r.text.size<=64:=h5;have h6:(b.length:Int)<=64+3*i:=h6;rw[q06]at h1;have hb:Tryd.prog.types[(5:Nat)].bytes=1:=by kernel_rfl
 show tx_side () r n i b;unfold tx_side;simp only[q2y,El.okL_eq,El.ag_eq,decide_eq_true_eq,hb];have hv:=q47 r.text i.toNat;generalize (bts r.text).getD i.toNat 0=v at hv;have h7:=(hxS hv.1 hv.2).2;have h8:=(hxA hv.1 hv.2).2;unfold maxLen
 repeat' (first|apply And.intro|intro _)
 all_goals first|trivial|omega
def ps_P(s:BA)(b:List Int):Prop:=b.length+s.size<=KB
abbrev ps_I(g:ps_G):List Prop:=[ps_P g.2.2.1 g.2.2.2.1]
abbrev ps_M(g:ps_G):Nat:=g.2.2.1.size
abbrev ps_RR(g:ps_G):Ex×ps_G:=ps_R g.1 g.2.1 g.2.2.1 g.2.2.2.1 g.2.2.2.2
theorem ps_RF(w:Rec)(s:BA)(b:List Int)(e:Int):ps_R () w s b e=if s.size=0 then(.exit 0,(),w,s,b,e)else match uStep (bts s) 0 with
  |none=>(.ret,(),Rec.mk 0 (ByteArray.mk #[]),s,b,50)
  |some (k,v)=>(.normal,(),w,s.extract k s.size,b++[v],e):=by
 unfold ps_R uStep;simp only[q2y,El.ag_eq,ixb];by_cases h0:s.size=0
 .rw[if_pos h0,decide_eq_true ((q7i s).2 h0)];rfl
 .rw[if_neg h0,decide_eq_false (λh=>h0 ((q7i s).1 h))];have hl:=q06 s;simp only[Bool.not_false,cond_true,Nat.zero_add,hl];by_cases h37:(bts s).getD 0 0=37
  .rw[h37];simp only[bne_self_eq_false,Bool.not_false,Bool.true_and,cond_false,if_true];by_cases h3:(s.size:Int)<3
   .rw[decide_eq_true h3,if_pos (.inl (by omega))];rfl
   .rw[decide_eq_false h3];simp only[cond_false];have r1:=qai ((bts s).getD 1 0);have r2:=qai ((bts s).getD 2 0);generalize hexV ((bts s).getD 1 0)=x at r1 ⊢;generalize hexV ((bts s).getD 2 0)=y at r2 ⊢;by_cases hx:x<0
    .rw[decide_eq_true hx,if_pos (.inr (.inl hx))];rfl
    .by_cases hy:y<0
     .rw[decide_eq_true hy,if_pos (.inr (.inr hy)),Bool.or_true];rfl
     .rw[decide_eq_false hx,decide_eq_false hy,if_neg (by rintro(h|h|h);omega;exact hx h;exact hy h),orH hx r1 hy r2,ap1];rfl
  .rw[if_neg h37,bne_iff_ne.2 h37];simp only[Bool.not_true,Bool.false_and,cond_false,cond_true];rw[ap1]
theorem ps_step{s:BA}{b:List Int}(h:ps_P s b){k:Nat}{v:Int}(h0:s.size≠0)(hs:uStep (bts s) 0=some (k,v)):ps_P (s.extract k s.size) (b++[v])/\(s.extract k s.size).size<s.size/\bts (s.extract k s.size)=(bts s).drop k:=by
 have:=q8w (by rw[q06];omega) hs;rw[q06]at this;have hsz:(s.extract k s.size).size=s.size-k:=by rw[ByteArray.size_extract];omega
 refine⟨?_,by omega,?_⟩
 .unfold ps_P at h ⊢;rw[hsz,List.length_append];simp only[List.length_cons,List.length_nil];omega
 .rw[q8t,List.take_of_length_le (by rw[q06];exact Nat.le_refl _)]
theorem ps_goes:Goes ps_RR ps_M λg=>allP (ps_I g):=by
 rintro⟨⟨⟩,w,s,b,e⟩ hi hn;have h:ps_P s b:=hi _ (List.mem_cons_self ..);have eq:ps_RR ((),w,s,b,e)=_:=ps_RF w s b e;rw[eq]at hn ⊢;by_cases h0:s.size=0
 .rw[if_pos h0]at hn;cases hn
 .rw[if_neg h0]at hn ⊢;cases hu:uStep (bts s) 0 with
  |none=>rw[hu]at hn;cases hn
  |some x=>
   obtain⟨k,v⟩:=x;obtain⟨h1,h2,_⟩:=ps_step h h0 hu;refine⟨λp hp=>?_,h2⟩;rw[List.mem_singleton.1 hp];exact h1
theorem ps_ok:∀b∈q00 Tryd.prog 77,lkey b=6->q04 Tryd.prog b (ps_C ps_I ps_M).g:=by
 refine ps_loop ps_I ps_M (λg hi=>?_) ps_goes;obtain⟨⟨⟩,w,s,b,e⟩:=g;have h:ps_P s b:=hi _ (List.mem_cons_self ..);unfold ps_P KB at h;show ps_side () w s b e;unfold ps_side;simp only[El.okL_eq,El.ag_eq,byt5];by_cases h0:s.size=0
 .rw[decide_eq_true ((q7i s).2 h0)];refine⟨λh=>(by cases h),λ_=>?_⟩
  repeat' (first|apply And.intro|intro _)
  all_goals first|trivial|omega
 .rw[decide_eq_false (λh=>h0 ((q7i s).1 h))];generalize ((↑(ByteArray.get! s (0:Nat)).toNat:Int)!=(37:Int))=z;by_cases h3:(s.size:Int)<3
  .rw[decide_eq_true h3];unfold maxLen;cases z
   .refine⟨λ_=>⟨⟨by omega,by omega⟩,λh=>(by cases h),λh=>(by cases h),λh=>(by cases h),λh=>(by cases h),?_⟩,λh=>(by cases h)⟩;refine⟨λ_=>⟨by omega,λ_ _=>trivial⟩,λh=>(by cases h)⟩
   .refine⟨λ_=>?_,λh=>(by cases h)⟩;simp only[Bool.not_true,Bool.false_and,Bool.false_eq_true,false_implies,true_and,forall_const]
    repeat' (first|apply And.intro|intro _)
    all_goals first|trivial|omega
  .rw[decide_eq_false h3];unfold maxLen;refine⟨λ_=>?_,λh=>(by cases h)⟩
   repeat' (first|apply And.intro|intro _)
   all_goals first|trivial|omega
theorem ps_run(w:Rec)(s:BA)(b:List Int)(e:Int)(h:ps_P s b):(∃b',q0y s.size (bts s) b=some b'/\(loopF ps_RR ps_M ((),w,s,b,e)).1=.exit 0/\(loopF ps_RR ps_M ((),w,s,b,e)).2.2.1=w/\(loopF ps_RR ps_M ((),w,s,b,e)).2.2.2.2.1=b'/\(loopF ps_RR ps_M ((),w,s,b,e)).2.2.2.2.2=e)\/(q0y s.size (bts s) b=none/\(loopF ps_RR ps_M ((),w,s,b,e)).1=.ret/\(loopF ps_RR ps_M ((),w,s,b,e)).2.2.1=Rec.mk 0 (ByteArray.mk #[])/\(loopF ps_RR ps_M ((),w,s,b,e)).2.2.2.2.2=50):=by
 refine q1m ps_goes (Q:=λg r=>(∃b',q0y g.2.2.1.size (bts g.2.2.1) g.2.2.2.1=some b'/\r.1=.exit 0/\r.2.2.1=g.2.1/\r.2.2.2.2.1=b'/\r.2.2.2.2.2=g.2.2.2.2)\/(q0y g.2.2.1.size (bts g.2.2.1) g.2.2.2.1=none/\r.1=.ret/\r.2.2.1=Rec.mk 0 (ByteArray.mk #[])/\r.2.2.2.2.2=50)) ?_ ?_ ((),w,s,b,e) (λp hp=>by rw[List.mem_singleton.1 hp];exact h)
 .rintro⟨⟨⟩,w,s,b,e⟩ hi hn;have eq:ps_RR ((),w,s,b,e)=_:=ps_RF w s b e;rw[eq]at hn ⊢;by_cases h0:s.size=0
  .rw[if_pos h0];refine Or.inl ⟨b,?_,rfl,rfl,rfl,rfl⟩;show q0y s.size (bts s) b=some b;rw[h0];rfl
  .rw[if_neg h0]at hn ⊢;have hst:=q4r (bts s) 0 (by rw[q06];omega) b;rw[Nat.sub_zero,List.drop_zero,q06]at hst;cases hu:uStep (bts s) 0 with
   |none=>
    rw[hu]at hst;exact .inr ⟨hst,rfl,rfl,rfl⟩
   |some x=>rw[hu]at hn;exact absurd rfl hn
 .rintro⟨⟨⟩,w,s,b,e⟩ g' r hi he _ _ hq;have h:ps_P s b:=hi _ (List.mem_cons_self ..);have eq:ps_RR ((),w,s,b,e)=_:=ps_RF w s b e;rw[eq]at he;by_cases h0:s.size=0
  .rw[if_pos h0]at he;cases he
  .rw[if_neg h0]at he;have hst:=q4r (bts s) 0 (by rw[q06];omega) b;rw[Nat.sub_zero,List.drop_zero,q06]at hst;cases hu:uStep (bts s) 0 with
   |none=>rw[hu]at he;cases he
   |some x=>
    obtain⟨k,v⟩:=x;rw[hu]at he hst;simp only[Prod.mk.injEq,true_and]at he;subst he;obtain⟨_,_,h3⟩:=ps_step h h0 hu;simp only[Nat.zero_add]at hst;have hk:=q8w (by rw[q06];omega) hu;rw[q06]at hk;have hsz:(s.extract k s.size).size=s.size-k:=by rw[ByteArray.size_extract];omega
    simp only[h3,hsz]at hq;rw[<-hst]at hq;exact hq
def ltP2:LTab Tryd.prog:=(ltN27.cons 46 5 (tx_C tx_I tx_M) tx_ok).cons 77 6 (ps_C ps_I ps_M) ps_ok
abbrev lamP2:Lam:=ltP2.lam
theorem q34:∀f k L,lamP2 f k=some L->∀b∈q00 Tryd.prog f,lkey b=k->q04 Tryd.prog b L.g:=ltP2.ok
def chkR(r:Rec):Int:=bif decide ((r.text.size:Int)>64)||!Lib.validD r.text.data.toList then 50 else 0
theorem rchk_ok:FnPure Tryd.prog 69 aR dI chkR (λ_=>[]):=
 q0d (rchk_okS _ λr _ _=>by
  show q9d r;unfold q9d KB;intro h;have h:¬(r.text.size:Int)>64:=by simpa using h
  omega) λ_ _ _=>rfl
def tabP2:MTab Tryd.prog:=tabN29.cons 69 (pconP aR dI chkR (λ_=>[])) (q0o rchk_ok puI)
abbrev dRE:Dv (Rec×Int):=.tup (.cons dR (.one dI))
theorem puR(r:Rec):Pu (dR.enc r):=pu_agg (q26 (pu_v _) (q26 (pu_v _) q8m))
theorem puRE(r:Rec×Int):Pu (dRE.enc r):=pu_tup (q26 (puR _) (q26 (pu_v _) q8m))
def q6x(r:Rec):Ex×
 tx_G:=
 loopF (λg=>tx_R g.fst g.snd.fst g.snd.snd.fst g.snd.snd.snd.fst g.snd.snd.snd.snd) tx_M ((),r,(↑(ByteArray.size r.text):Int),(0:Int),e8u.lst (numS r.key++ByteArray.mk #[(58:UInt8)]).size (q2k (numS r.key++ByteArray.mk #[(58:UInt8)])))
def teA_F(r:Rec):Dv.T dStr:=
 bif chkR r !=(0:Int)then ByteArray.mk #[]
 else strOf (intsOf IntKind.u8 (q6x r).snd.snd.snd.snd.snd.length (e8u.els (q6x r).snd.snd.snd.snd.snd))
def qbj(r:Rec):Prop:=
 (chkR r !=(0:Int))=false->i64 r.key/\ByteArray.size (numS r.key)+(1:Nat)<=(9223372036854775807:Nat)/\(numS r.key++ByteArray.mk #[(58:UInt8)]).size<=maxLen/\(numS r.key++ByteArray.mk #[(58:UInt8)]).size<=(numS r.key++ByteArray.mk #[(58:UInt8)]).size/\(∀(e:Nat),e<(numS r.key++ByteArray.mk #[(58:UInt8)]).size->True)/\Lp.ixJ tx_lim tx_xs tx_K (tx_f ((),r,(↑(ByteArray.size r.text):Int),(0:Int),e8u.lst (numS r.key++ByteArray.mk #[(58:UInt8)]).size (q2k (numS r.key++ByteArray.mk #[(58:UInt8)]))))/\((q6x r).snd.snd.snd.snd.snd.length<=(q6x r).snd.snd.snd.snd.snd.length/\∀(e:Nat),e<(q6x r).snd.snd.snd.snd.snd.length->((ElE.fn (e8u.els (q6x r).snd.snd.snd.snd.snd)).at e).all SV.one=true)/\∀(e:Nat),e<(q6x r).snd.snd.snd.snd.snd.length->(Sx.intOf IntKind.u8 ((ElE.fn (e8u.els (q6x r).snd.snd.snd.snd.snd)).at e)).isSome=true
theorem teA_okS(pre:DA.T aR->List Prop)(h:∀g,DA.bd aR g->(∀p∈pre g,p)->qbj g):FnPure Tryd.prog 46 aR dStr (λg=>teA_F g) pre:=q05 (Γ:=(MTab.gamz tabP2 [] [])) (Λ:=lamP2) (MTab.okz tabP2 [] []) q34 100 default (λg=>qbj g) (λg=>by kernel_rfl) (λg=>by kernel_rfl) h
def textS(r:Rec):BA:=bif chkR r !=(0:Int)then ByteArray.mk #[]else strOf (numL r.key++58::escL (bts r.text))
theorem chkR_le{r:Rec}(h:(chkR r !=(0:Int))=false):r.text.size<=64:=by
 have h:chkR r=0:=by simpa using h
 unfold chkR at h;by_cases hc:(r.text.size:Int)>64
 .rw[decide_eq_true hc]at h;cases h
 .omega
theorem numL_len{n:Int}(h:i64 n):1<=(numL n).length/\(numL n).length<=20:=by
 obtain⟨hb1,hb2⟩:=abs_b h;have e:numL n=(if n<0 then [45]else [])++dgt 20 (absI n):=rfl;have hl1:=q8r 20 19 (absI n) hb1 (by rw[p10_19];omega) (by decide);have hl2:1<=(dgt 20 (absI n)).length:=dgt_pos 19 _;rw[e,List.length_append];split<;>simp only[List.length_cons,List.length_nil]<;>omega
theorem numL_range{n:Int}(h:i64 n):∀c∈numL n,0<=c/\c<=255:=by
 obtain⟨hb1,hb2⟩:=abs_b h;have e:numL n=(if n<0 then [45]else [])++dgt 20 (absI n):=rfl;rw[e];intro c hc;rcases List.mem_append.1 hc with hc|hc
 .split at hc
  .rw[List.mem_singleton.1 hc];decide
  .cases hc
 .have:=q57 20 _ hb1 c hc;omega
theorem byte_lst(s:BA):e8u.lst s.size (q2k s)=bts s:=by
 refine List.ext_getElem ?_ λi h1 h2=>?_
 .rw[e8u.lst_length,q06]
 .rw[e8u.lst_length]at h1;have hi:i<s.data.toList.length:=by rw[toL_len];exact h1
  have hb:q2k s i=e8u.cells ((s.data.toList[i]'hi).toNat:Int):=by
   unfold q2k;rw[get_toL,List.getD_eq_getElem?_getD,List.getElem?_eq_getElem hi];rfl
  have:=e8u.lst_getD s.size (q2k s) _ h1;rw[List.getD_eq_getElem?_getD,List.getElem?_eq_getElem (by rw[e8u.lst_length];exact h1)]at this;simp only[Option.getD_some]at this;rw[this,hb];have e2:(bts s)[i]=((s.data.toList[i]'hi).toNat:Int):=by simp[bts]
  rw[e2];simp[El.get,e8u,eInt,El.one',dInt,SV.int?]
theorem head_lst(n:Int)(h:i64 n):e8u.lst (numS n++ByteArray.mk #[(58:UInt8)]).size (q2k (numS n++ByteArray.mk #[(58:UInt8)]))=numL n++[58]:=by
 have e:e8u.lst (numS n++ByteArray.mk #[(58:UInt8)]).size (q2k (numS n++ByteArray.mk #[(58:UInt8)]))=bts (numS n++ByteArray.mk #[(58:UInt8)]):=byte_lst _;rw[e,q5f];unfold numS;rw[q3m (numL_range h)];rfl
theorem tx_scan(c:tx_GC)(l:List Int)(b:List Int):scan 0 (tx_S c) 0 l ((),b)=(.exit 0,(l.length:Int),(),b++escL l):=by
 rw[scan_fold (st:=tx_S c) (f:=λ(b:tx_GB)v=>((),b.2++esc1 v)) (λ_ _ _=>rfl),Int.zero_add]
 have:∀(l:List Int)(b:List Int),l.foldl (λ(b:tx_GB)v=>((),b.2++esc1 v)) ((),b)=((),b++escL l):=by
  intro l
  induction l with
  |nil=>intro b;simp[escL]
  |cons a l ih=>intro b;rw[List.foldl_cons,ih,List.append_assoc];rfl
 rw[this]
theorem teA_eq(r:Rec)(hk:i64 r.key):qbj r/\teA_F r=textS r:=by
 unfold qbj teA_F textS;cases hc:(chkR r !=(0:Int))with
 |true=>exact⟨λh=>(by cases h),rfl⟩
 |false=>
  have h64:=chkR_le hc;have hn:=numL_len hk;have hsz:(numS r.key).size=(numL r.key).length:=q1b _
  have hq:q6x r=loopF tx_RR tx_M (tx_g (0,(r,(r.text.size:Int)),((),numL r.key++[58]))):=by
   unfold q6x;rw[head_lst _ hk];rfl
  have hK:tx_K (r,(r.text.size:Int)) ((),numL r.key++[58]) 0:=⟨h64,by
   show((numL r.key++[58]).length:Int)<=_;rw[List.length_append];simp only[List.length_cons,List.length_nil];omega⟩
  have hl:(r.text.size:Int)=((bts r.text).length:Int):=by rw[q06]
  have hm:(bts r.text).length<=maxLen:=by rw[q06];unfold maxLen;omega
  have hr:loopF tx_RR tx_M (tx_g (0,(r,(r.text.size:Int)),((),numL r.key++[58])))=_:=q0e (φ:=tx_f) (ψ:=tx_g) (λ_=>rfl) (λ_=>rfl) tx_RF tx_P (r,(r.text.size:Int)) ((),numL r.key++[58]) hl hm hK;have hs:scan 0 (tx_S (r,(r.text.size:Int))) 0 (bts r.text) ((),numL r.key++[58])=_:=tx_scan _ _ _
  have hb:(q6x r).2.2.2.2.2=numL r.key++[58]++escL (bts r.text):=by
   rw[hq,hr];show(scan 0 (tx_S (r,(r.text.size:Int))) 0 (bts r.text) ((),numL r.key++[58])).2.2.2=_;rw[hs]
  rw[hb,head_lst _ hk];refine⟨λ_=>⟨hk,by omega,?_,Nat.le_refl _,λ_ _=>trivial,?_,⟨Nat.le_refl _,λe _=>e8u.one_els _ e⟩,λe _=>rfl⟩,?_⟩
  .rw[ByteArray.size_append,hsz];unfold maxLen;show(numL r.key).length+1<=_;omega
  .exact⟨hl,hm,Int.le_refl _,by show(0:Int)<=_;omega,hK⟩
  .rw[cond_false,cond_false,q7z,List.append_assoc];rfl
theorem teA_ok:FnPure Tryd.prog 46 aR dStr textS (λr=>[i64 r.key]):=
 q0d (teA_okS _ λr _ hp=>(teA_eq r (hp _ (List.mem_cons_self ..))).1) λr _ hp=>(teA_eq r (hp _ (List.mem_cons_self ..))).2
def tabP4:MTab Tryd.prog:=tabP2.cons 46 (pconP aR dStr textS (λr=>[i64 r.key])) (q0o teA_ok puS)
def q3g(s:BA):Ex×
 ps_G:=
 loopF (λg=>ps_R g.fst g.snd.fst g.snd.snd.fst g.snd.snd.snd.fst g.snd.snd.snd.snd) ps_M ((),Rec.mk (0:Int) (ByteArray.mk #[]),ByteArray.mk (Lib.cut s.data.toList #[(58:UInt8)].toList).snd.fst.toArray,[],(0:Int))
def prA_F(s:BA):Dv.T dRE:=
 bif !(Lib.cut s.data.toList #[(58:UInt8)].toList).snd.snd||!(q07 (ByteArray.mk (Lib.cut s.data.toList #[(58:UInt8)].toList).fst.toArray)).snd then(Rec.mk (0:Int) (ByteArray.mk #[]),(50:Int))
 else bif exB Ex.ret (q3g s).fst then((q3g s).snd.snd.fst,(q3g s).snd.snd.snd.snd.snd)else bif chkR (Rec.mk (q07 (ByteArray.mk (Lib.cut s.data.toList #[(58:UInt8)].toList).fst.toArray)).fst (strOf (intsOf IntKind.u8 (q3g s).snd.snd.snd.snd.fst.length (e8u.els (q3g s).snd.snd.snd.snd.fst))))!=(0:Int)||!decide (textS (Rec.mk (q07 (ByteArray.mk (Lib.cut s.data.toList #[(58:UInt8)].toList).fst.toArray)).fst (strOf (intsOf IntKind.u8 (q3g s).snd.snd.snd.snd.fst.length (e8u.els (q3g s).snd.snd.snd.snd.fst))))=s)then(Rec.mk (0:Int) (ByteArray.mk #[]),(50:Int))else(Rec.mk (q07 (ByteArray.mk (Lib.cut s.data.toList #[(58:UInt8)].toList).fst.toArray)).fst (strOf (intsOf IntKind.u8 (q3g s).snd.snd.snd.snd.fst.length (e8u.els (q3g s).snd.snd.snd.snd.fst))),(0:Int))
def prA_side(s:BA):Prop:=
 ByteArray.size s<=KS/\(ByteArray.mk (Lib.cut s.data.toList #[(58:UInt8)].toList).fst.toArray).size<=KB/\((!(Lib.cut s.data.toList #[(58:UInt8)].toList).snd.snd||!(q07 (ByteArray.mk (Lib.cut s.data.toList #[(58:UInt8)].toList).fst.toArray)).snd)=false->ps_P (ByteArray.mk (Lib.cut s.data.toList #[(58:UInt8)].toList).snd.fst.toArray) []/\(exB Ex.ret (q3g s).fst=false->((q3g s).snd.snd.snd.snd.fst.length<=(q3g s).snd.snd.snd.snd.fst.length/\∀(e:Nat),e<(q3g s).snd.snd.snd.snd.fst.length->((ElE.fn (e8u.els (q3g s).snd.snd.snd.snd.fst)).at e).all SV.one=true)/\(∀(e:Nat),e<(q3g s).snd.snd.snd.snd.fst.length->(Sx.intOf IntKind.u8 ((ElE.fn (e8u.els (q3g s).snd.snd.snd.snd.fst)).at e)).isSome=true)/\((!chkR (Rec.mk (q07 (ByteArray.mk (Lib.cut s.data.toList #[(58:UInt8)].toList).fst.toArray)).fst (strOf (intsOf IntKind.u8 (q3g s).snd.snd.snd.snd.fst.length (e8u.els (q3g s).snd.snd.snd.snd.fst))))!=(0:Int))=true->i64 (q07 (ByteArray.mk (Lib.cut s.data.toList #[(58:UInt8)].toList).fst.toArray)).fst)))
theorem prA_okS(pre:DA.T aB->List Prop)(h:∀g,DA.bd aB g->(∀p∈pre g,p)->prA_side g):FnPure Tryd.prog 77 aB dRE (λg=>prA_F g) pre:=q05 (Γ:=(MTab.gamz tabP4 [] [])) (Λ:=lamP2) (MTab.okz tabP4 [] []) q34 100 default (λg=>prA_side g) (λg=>by kernel_rfl) (λg=>by kernel_rfl) h
def colon(l:List Int):Nat:=l.findIdx λc=>decide (c=58)
def errR:Rec×Int:=(Rec.mk 0 (ByteArray.mk #[]),50)
def makeR(s:BA)(n:Int)(b:List Int):Rec×Int:=bif chkR (Rec.mk n (strOf b))!=0||!decide (textS (Rec.mk n (strOf b))=s)then errR else(Rec.mk n (strOf b),0)
def q25(s:BA):Rec×Int:=
 bif decide (s.size<=colon (bts s))||!(q07 (s.extract 0 (colon (bts s)))).2 then errR else
 match q0y (s.size-(colon (bts s)+1)) ((bts s).drop (colon (bts s)+1)) []with
 |none=>errR
 |some b=>makeR s (q07 (s.extract 0 (colon (bts s)))).1 b
theorem colon_some{s:BA}{o:Nat}(h:Lib.indexByte s.data.toList 58=o):colon (bts s)=o/\o<s.size:=by
 obtain⟨h1,h2⟩:=Lib.indexByte_some h;have hlt:o<s.data.toList.length:=(List.getElem?_eq_some_iff.1 h1).1;have hl:s.data.toList.length=s.size:=by rw[<-q06];unfold bts;rw[List.length_map]
 refine⟨?_,by omega⟩;unfold colon;have hb:∀k,k<(bts s).length->(bts s)[k]?=(s.data.toList[k]?).map λx=>(x.toNat:Int):=λk _=>by unfold bts;rw[List.getElem?_map]
 have hlt':o<(bts s).length:=by rw[q06];omega
 rw[List.findIdx_eq hlt'];refine⟨?_,λj hj=>?_⟩
 .have:=hb o hlt';rw[h1,List.getElem?_eq_getElem hlt']at this;simp only[Option.map_some,Option.some.injEq]at this;rw[this];decide
 .have hj':j<(bts s).length:=by omega
  have:=hb j hj';have hj2:j<s.data.toList.length:=by omega
  rw[List.getElem?_eq_getElem hj',List.getElem?_eq_getElem hj2]at this;simp only[Option.map_some,Option.some.injEq]at this;rw[this];have h3:=h2 j hj;rw[List.getElem?_eq_getElem hj2]at h3;rw[decide_eq_false_iff_not];intro h4;apply h3;congr 1;apply UInt8.toNat_inj.1;show _=58;omega
theorem colon_none{s:BA}(h:Lib.indexByte s.data.toList 58=-1):colon (bts s)=s.size:=by
 have h1:=Lib.indexByte_none h;unfold colon;rw[<-q06,List.findIdx_eq_length];intro x hx;obtain⟨y,hy,rfl⟩:=List.mem_map.1 hx;rw[decide_eq_false_iff_not];intro h4;obtain⟨k,hk⟩:=List.getElem?_of_mem hy;apply h1 k;rw[hk];congr 1;apply UInt8.toNat_inj.1;show _=58;omega
theorem cut58(s:BA):(Lib.cut s.data.toList #[(58:UInt8)].toList).2.2=!decide (s.size<=colon (bts s))/\(ByteArray.mk (Lib.cut s.data.toList #[(58:UInt8)].toList).1.toArray)=s.extract 0 (colon (bts s))/\
  (colon (bts s)<s.size->bts (ByteArray.mk (Lib.cut s.data.toList #[(58:UInt8)].toList).2.1.toArray)=(bts s).drop (colon (bts s)+1)):=by
 have hio:Lib.index s.data.toList #[(58:UInt8)].toList=Lib.indexByte s.data.toList 58:=Lib.index_one _ _;have hge:=Lib.indexByte_ge s.data.toList 58;have hl:s.data.toList.length=s.size:=by rw[<-q06];unfold bts;rw[List.length_map]
 have hx:∀l:List UInt8,(ByteArray.mk l.toArray).data.toList=l:=λl=>by simp
 unfold Lib.cut;rw[hio];by_cases h:0<=Lib.indexByte s.data.toList 58
 .obtain⟨o,ho⟩:∃o:Nat,Lib.indexByte s.data.toList 58=o:=⟨(Lib.indexByte s.data.toList 58).toNat,by omega⟩;obtain⟨h1,h2⟩:=colon_some ho;rw[if_pos h,ho,h1];refine⟨?_,?_,λ_=>?_⟩
  .show true=_;rw[decide_eq_false (by omega)];rfl
  .apply ba_inj;rw[hx,ba_ext];rfl
  .show((s.data.toList.drop (o+1)).map _)=_;unfold bts;rw[List.map_drop]
 .have h1:=colon_none (s:=s) (by omega);rw[if_neg h,h1];refine⟨?_,?_,λh=>by omega⟩
  .show false=_;rw[decide_eq_true (Nat.le_refl _)];rfl
  .apply ba_inj;rw[hx,ba_ext,List.take_of_length_le (by omega)];rfl
theorem prA_eq(s:BA)(hs:s.size<=KS):prA_side s/\prA_F s=q25 s:=by
 obtain⟨c1,c2,c3⟩:=cut58 s;have hKB:s.size<=KB:=Nat.le_trans hs (by decide);unfold prA_side prA_F q25;rw[c1,c2,Bool.not_not];have hex:(s.extract 0 (colon (bts s))).size<=KB:=by rw[ByteArray.size_extract];omega
 cases hc:decide (s.size<=colon (bts s))||!(q07 (s.extract 0 (colon (bts s)))).2 with
 |true=>exact⟨⟨hs,hex,λh=>(by cases h)⟩,rfl⟩
 |false=>
  have hlt:colon (bts s)<s.size:=by
   rw[Bool.or_eq_false_iff]at hc;have:=of_decide_eq_false hc.1;omega
  have h3:=c3 hlt
  have hsz:(ByteArray.mk (Lib.cut s.data.toList #[(58:UInt8)].toList).2.1.toArray).size=s.size-(colon (bts s)+1):=by
   rw[<-q06,h3,List.length_drop,q06]
  have hP:ps_P (ByteArray.mk (Lib.cut s.data.toList #[(58:UInt8)].toList).2.1.toArray) []:=by
   show 0+(ByteArray.mk (Lib.cut s.data.toList #[(58:UInt8)].toList).2.1.toArray).size<=KB;omega
  have hr:=ps_run (Rec.mk 0 (ByteArray.mk #[])) _ [] 0 hP;have hq:q3g s=loopF ps_RR ps_M ((),Rec.mk 0 (ByteArray.mk #[]),ByteArray.mk (Lib.cut s.data.toList #[(58:UInt8)].toList).2.1.toArray,[],0):=rfl;rw[<-hq,h3,hsz]at hr;rcases hr with ⟨b,e1,e2,e3,e4,e5⟩|⟨e1,e2,e3,e4⟩
  .rw[e1,e2,e4,q7z];refine⟨⟨hs,hex,λ_=>⟨hP,λ_=>⟨⟨Nat.le_refl _,λe _=>e8u.one_els _ e⟩,λe _=>rfl,λ_=>q5n _⟩⟩⟩,?_⟩;rfl
  .rw[e1,e2,e3,e4];exact⟨⟨hs,hex,λ_=>⟨hP,λh=>(by cases h)⟩⟩,rfl⟩
theorem prA_ok:FnPure Tryd.prog 77 aB dRE q25 (λs=>[s.size<=KS]):=
 q0d (prA_okS _ λr _ hp=>(prA_eq r (hp _ (List.mem_cons_self ..))).1) λr _ hp=>(prA_eq r (hp _ (List.mem_cons_self ..))).2
theorem esc1_range:∀c,0<=c->c<=255->∀x∈esc1 c,0<=x/\x<=255:=by
 intro c h1 h2;obtain⟨k,rfl⟩:∃k:Nat,c=(k:Int):=⟨c.toNat,by omega⟩;have hk:k<256:=by omega
 have key:∀k:Nat,k<256->((esc1 (k:Int)).all λx=>decide (0<=x)&&decide (x<=255))=true:=by decide
 intro x hx;have:=List.all_eq_true.1 (key k hk) x hx;simpa using this
theorem qab{n:Int}:∀c∈numL n,(48<=c/\c<=57)\/c=45:=by
 intro c hc;unfold numL at hc;rcases List.mem_append.1 hc with h|h
 .right;split at h
  .exact List.mem_singleton.1 h
  .cases h
 .left;exact q57 20 _ (by split<;>omega) c h
theorem text_bts{r:Rec}(h:chkR r=0):bts (textS r)=numL r.key++58::escL (bts r.text):=by
 unfold textS;rw[h];refine q3m λc hc=>?_;rcases List.mem_append.1 hc with hc|hc
 .have:=qab c hc;omega
 .rcases List.mem_cons.1 hc with rfl|hc
  .omega
  .obtain⟨a,ha,hx⟩:=List.mem_flatMap.1 hc;have:=q1t _ a ha;exact esc1_range a this.1 this.2 c hx
theorem colon_text{r:Rec}(h:chkR r=0):colon (bts (textS r))=(numL r.key).length:=by
 rw[text_bts h];unfold colon;rw[List.findIdx_append]
 have:(numL r.key).findIdx (λc=>decide (c=58))=(numL r.key).length:=by
  rw[List.findIdx_eq_length];intro c hc;have:=qab c hc;rw[decide_eq_false_iff_not];omega
 rw[this,if_neg (by omega),List.findIdx_cons];simp
theorem parse_text{r:Rec}(h:chkR r=0)(hk:i64 r.key):q25 (textS r)=(r,0):=by
 have hb:=text_bts h;have hc:=colon_text h
 have hl:(textS r).size=(numL r.key).length+1+(escL (bts r.text)).length:=by
  rw[<-q06,hb,List.length_append,List.length_cons];omega
 obtain⟨n1,n2⟩:=numL_back hk.1 hk.2
 have he:bts ((textS r).extract 0 (numL r.key).length)=numL r.key:=by
  rw[q8t,hb,List.take_left',List.drop_zero];rfl
 have hs:(textS r).extract 0 (numL r.key).length=numS r.key:=by
  rw[<-q1q ((textS r).extract 0 (numL r.key).length),he];rfl
 have hp:q07 ((textS r).extract 0 (numL r.key).length)=(r.key,true):=by
  unfold q07;rw[he,n1,n2,hs];simp
 have hd:(bts (textS r)).drop ((numL r.key).length+1)=escL (bts r.text):=by
  rw[hb,List.drop_append];simp
 unfold q25;rw[hc,hp,hd,decide_eq_false (by omega)];rw[unescF_esc (bts r.text) [] _ (q1t _) (by omega),List.nil_append];show makeR (textS r) r.key (bts r.text)=(r,0);unfold makeR;rw[q1q];show(bif chkR r !=0||!decide (textS r=textS r)then errR else(r,0))=(r,0);rw[h];simp
theorem textS_size(r:Rec)(h:i64 r.key):(textS r).size<=213:=by
 unfold textS;cases hc:(chkR r !=(0:Int))with
 |true=>
  show 0<=213;omega
 |false=>
  have h64:=chkR_le hc;have hn:=(numL_len h).2;have he:=escL_len (bts r.text);rw[q06]at he;rw[cond_false,q1b,List.length_append,List.length_cons];omega
def tabP6:MTab Tryd.prog:=tabP4.cons 77 (pconP aB dRE q25 (λs=>[s.size<=KS])) (q0o prA_ok puRE)
end
end Go.Proofs.YtapdglacmebbaaaDoor

namespace Go.Proofs.YtapdglacmebbaaaDoor
open Go.RowKit Go.Sx
theorem neI(a b:Int):(a !=b)=!decide (a=b):=by
 cases h:decide (a=b)with
 |true=>simp[of_decide_eq_true h]
 |false=>simp[of_decide_eq_false h]
theorem conj_eR(a b:Rec):conj ([a.key==b.key]++([decide (a.text=b.text)]++[]))=decide (a=b):=by
 obtain⟨k,s⟩:=a;obtain⟨k',s'⟩:=b;rw[Bool.eq_iff_iff];simp[conj]
theorem conj_eF(a b:Fn):conj ([a.kind==b.kind]++([a.a==b.a]++([decide (a.s=b.s)]++[])))=decide (a=b):=by
 obtain⟨k,s,t⟩:=a;obtain⟨k',s',t'⟩:=b;rw[Bool.eq_iff_iff];simp[conj]
theorem conj_eV(a b:Mv):conj ([a.fr==b.fr]++([a.to==b.to]++([a.kind==b.kind]++([a.a==b.a]++([a.fn.kind==b.fn.kind]++([a.fn.a==b.fn.a]++([decide (a.fn.s=b.fn.s)]++[]))++[])))))=decide (a=b):=by
 obtain⟨a1,a2,a3,a4,⟨a5,a6,a7⟩⟩:=a;obtain⟨b1,b2,b3,b4,⟨b5,b6,b7⟩⟩:=b;rw[Bool.eq_iff_iff];simp[conj,and_assoc]
end Go.Proofs.YtapdglacmebbaaaDoor
