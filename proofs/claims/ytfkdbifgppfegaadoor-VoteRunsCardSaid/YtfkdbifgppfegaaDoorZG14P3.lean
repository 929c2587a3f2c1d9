/- Chapter 21: whatever is done to a coordinator, it may be: each thing. -/
import Derived.Test.YtfkdbifgppfegaaDoorZG13ceddba
import Derived.Test.YtfkdbifgppfegaaDoorZG0555ce6c
import Derived.Test.YtfkdbifgppfegaaDoorZG065e5f9a
import Derived.Test.YtfkdbifgppfegaaDoorZG12f56d1d
import Derived.Test.YtfkdbifgppfegaaDoorCards
set_option linter.unusedVariables false
set_option linter.unusedSimpArgs false
set_option linter.constructorNameAsVariable false
set_option linter.all false

namespace Go.Proofs.YtfkdbifgppfegaaDoor
open Go.RowKit Go.Sx Go.Lp
set_option maxRecDepth 100000
theorem rng{l:Ld}(h:Inv l):(1<=l.workers/\l.workers<=16)/\0<=l.ver/\l.ver<=1099511627776:=by
 have:=of_decide_eq_true (chk_rg0 h.c);exact⟨⟨this.1,this.2.1⟩,this.2.2.2.2.1,this.2.2.2.2.2⟩
theorem inv_sub{l:Ld}{d:Dl}{c:Int}(h:Inv l)(hd:fewD d):Inv (subS l d c).1:=by
 obtain⟨hw,hv⟩:=rng h;unfold subS;rw[ne0 h.c,cond_false];cases h1:(l.stage !=0)with
 |true=>exact h
 |false=>
  rw[cond_false];cases h2:(decide (c<1)||decide (c>1073741824))with
  |true=>exact h
  |false=>
   rw[cond_false];cases h3:(l.ver==1099511627776)with
   |true=>exact h
   |false=>
    rw[cond_false];simp only[Bool.or_eq_false_iff,decide_eq_false_iff_not]at h2;have h3:l.ver≠1099511627776:=by simpa using h3
    exact⟨chk_mk (rg_mk hw ⟨by decide,by decide⟩ hv) (.inl rfl) (cc_mk ⟨by omega,by omega⟩ rfl) (by simp) rfl (by rw[List.length_replicate];omega) (has_rep (by omega)),hd,.inr (by show l.ver<1099511627776;omega)⟩
theorem inv_drn{l:Ld}(h:Inv l):Inv (drnS l).1:=by
 obtain⟨hw,hv⟩:=rng h;unfold drnS;rw[ne0 h.c,cond_false];cases h1:(l.stage !=2)with
 |true=>exact h
 |false=>
  rw[cond_false];have h1:l.stage=2:=by simpa using h1
  have hc:=h.c;rw[chk_st2 l h1]at hc;have hc:=bif213 hc;simp only[Bool.and_eq_true,decide_eq_true_eq]at hc;obtain⟨_,k1,k2,k3,k4,_⟩:=hc;have k3:((l.ents.length:Int)==0)=true:=by simpa using k3
  exact⟨chk_mk (rg_mk hw ⟨by decide,by decide⟩ hv) (.inr rfl) (cc_mk (cc_of k1).1 (cc_of k1).2) k2 (by rw[k3];rfl) (by rw[List.length_replicate];omega) (has_rep (by omega)),h.d,.inr (by have:=h.v;show l.ver<1099511627776;omega)⟩
theorem inv_abt{l:Ld}{why:Int}(h:Inv l):Inv (abtS l why).1:=by
 obtain⟨hw,hv⟩:=rng h;unfold abtS;rw[ne0 h.c,cond_false];cases h1:(l.stage==0||l.stage==4)with
 |true=>exact h
 |false=>
  rw[cond_false];cases h2:(why==0)with
  |true=>exact h
  |false=>
   rw[cond_false];simp only[Bool.or_eq_false_iff,beq_eq_false_iff_ne]at h1
   have hcc:∀k:ccB l=true,(((bif l.yes then why else l.why)==0)==false)=true:=λk=>by
    have k:=(cc_of k).2;cases hy:l.yes with
    |true=>rw[cond_true,h2];rfl
    |false=>rw[hy]at k;exact k
   have hvv:l.ver<1099511627776:=by have:=h.v;omega
   rcases h.st with e|e|e|e
   .omega
   .have hc:=h.c;rw[chk_st2 l e]at hc;have hc:=bif213 hc;simp only[Bool.and_eq_true,decide_eq_true_eq]at hc;obtain⟨_,k1,k2,k3,k4,k5⟩:=hc;rw[e,len0 k5];exact⟨chk_mk4 (rg_mk hw ⟨by decide,by decide⟩ hv) (cc_mk (cc_of k1).1 (hcc k1)) (by simp) rfl,h.d,.inr hvv⟩
   .omega
   .obtain⟨_,k1,k2,k3,k4,k5⟩:=chk_ask (ne0 h.c) e;have e13:=st_13 e;have e2:(l.stage==2)=false:=by rcases e13 with q|q<;>rw[q]<;>rfl
    rw[e2,cond_false];exact⟨chk_mk (rg_mk hw ⟨by omega,by omega⟩ hv) e13 (cc_mk (cc_of k1).1 (hcc k1)) (by simp) rfl k4 k5,h.d,.inr hvv⟩
theorem inv_end{l:Ld}(h:Inv l):Inv (endM l).1:=by
 obtain⟨hw,hv⟩:=rng h;unfold endM;rw[ne0 h.c,cond_false];cases h1:(l.stage !=4)with
 |true=>exact h
 |false=>
  rw[cond_false];have h1:l.stage=4:=by simpa using h1
  have hvv:l.ver<1099511627776:=by have:=h.v;omega
  refine inv_idle hw ?_;cases l.yes
  .exact hv
  .show 0<=l.ver+1/\l.ver+1<=1099511627776;omega
theorem inv_fin{l:Ld}{w:Int}{m:Ms}(h:Inv l)(k:HeaK l w m){y:Bool}{why:Int}{es:List Ent}(hcc:((why==0)==y)=true)(h1:(es.length:Int)<=1024)(h0:((es.length:Int)==0||(y&&l.stage==3))=true):Inv (finS l (l.voted.set w.toNat true) y why es).1:=by
 obtain⟨hw,hv⟩:=rng h;have e13:=st_13 k.s;have hvv:l.ver<1099511627776:=by have:=h.v;omega
 obtain⟨_,k1,_,_,k4,_⟩:=chk_ask k.c k.s;unfold finS;cases hb:hasB (l.voted.set w.toNat true) false with
 |true=>
  refine⟨?_,h.d,.inr hvv⟩;have:=chk_x k.c k.s (v:=l.voted.set w.toNat true) (by rw[List.length_set]) hcc h1 h0;rw[hb]at this;exact this
 |false=>
  rw[cond_false];cases hz:(l.stage==1&&y)with
  |false=>
   refine⟨chk_mk4 (rg_mk hw ⟨by decide,by decide⟩ hv) (cc_mk (cc_of k1).1 hcc) h1 ?_,h.d,.inr hvv⟩;simp only[Bool.or_eq_true,Bool.and_eq_true]at h0 ⊢;rcases h0 with q|q
   .exact .inl q
   .exact .inr q.1
  |true=>
   simp only[Bool.and_eq_true,beq_iff_eq]at hz;obtain⟨z1,z2⟩:=hz;subst z2;rw[z1]at h0;have h0:((es.length:Int)==0)=true:=by simpa using h0
   rw[len0 h0];exact⟨chk_mk2 (rg_mk hw ⟨by decide,by decide⟩ hv) (cc_mk (cc_of k1).1 hcc),h.d,.inr hvv⟩
theorem inv_hea{l:Ld}{w:Int}{m:Ms}(h:Inv l):Inv (heaS l w m).1:=by
 unfold heaS;cases hh:(heaE l w m !=0)with
 |true=>exact h
 |false=>
  have k:=heaK hh;obtain⟨k1,k2,k3,k4,k5,k6⟩:=chk_ask k.c k.s;have k2:=cc_of k2;rw[cond_false];cases hy:m.yes with
  |false=>exact inv_fin h k (why_no k hy) (by simp) rfl
  |true=>
   simp only[Bool.not_true,cond_false];cases hl:l.yes with
   |false=>
    rw[hl]at k2 k4;exact inv_fin h k k2.2 k3 k4
   |true=>
    rw[hl]at k2 k4;simp only[cond_true];cases hg:decide (((l.ents.length+m.ents.length:Nat):Int)>1024)with
    |true=>exact inv_fin h k rfl (by simp) rfl
    |false=>
     simp only[cond_false];have hg:¬((l.ents.length+m.ents.length:Nat):Int)>1024:=of_decide_eq_false hg
     exact inv_fin h k k2.2 (by rw[List.length_append];omega) (by
      rcases st_13 k.s with e|e
      .rw[e]at k4;have he:=k.e;rw[e]at he;have h1:l.ents.length=0:=by simpa using k4
       have h2:m.ents.length=0:=by simpa using he
       rw[List.length_append,h1,h2];rfl
      .rw[e];simp)
theorem inv_do{l:Ld}{d:Do}(h:Inv l)(hd:fewO d):Inv (doS l d).l:=by
 unfold doS;cases d.kind==0
 .rw[cond_false];cases d.kind==1
  .rw[cond_false];cases d.kind==2
   .rw[cond_false];cases d.kind==3
    .exact inv_end h
    .exact inv_abt h
   .exact inv_drn h
  .exact inv_hea h
 .exact inv_sub h hd.1
theorem inv_new{n:Int}(h:1<=n/\n<=16):Inv (newS n).1/\(newS n).2=0:=by
 unfold newS;rw[decide_eq_false (by omega),decide_eq_false (by omega)];exact⟨inv_idle h ⟨Int.le_refl _,by decide⟩,rfl⟩
end Go.Proofs.YtfkdbifgppfegaaDoor

namespace Go.Proofs.YtfkdbifgppfegaaDoor
open Go.RowKit Go.Sx Go.Lp
set_option maxRecDepth 100000
abbrev vrC:=List Do×Int
abbrev vrB:=Bool×Unit×Ld
noncomputable def nxt(l:Ld)(d:Do):Ld:=bif few21_F d then(doS l d).l else l
theorem inv_nxt{l:Ld}(h:Inv l)(d:Do):Inv (nxt l d):=by
 unfold nxt;cases hf:few21_F d with
 |true=>exact inv_do h (few_few hf)
 |false=>exact h
noncomputable def vr_S(_:vrC)(b:vrB)(_:Int)(a:Do):Ex×vrB:=(.normal,b.1,b.2.1,nxt b.2.2 a)
abbrev vr_xs(c:vrC):List Do:=c.1
abbrev vr_lim(c:vrC):Int:=c.2
def vr_K(_:vrC)(b:vrB)(_:Int):Prop:=Inv b.2.2
theorem vr_P:ixP vr_S vr_xs vr_K:=λ_ _ _ a h _ _=>inv_nxt h a
def vrl_f(g:vrl_G):Int×vrC×vrB:=(g.2.2.1,(g.1,g.2.1),(g.2.2.2.1,g.2.2.2.2.1,g.2.2.2.2.2))
def vrl_g(d:Int×vrC×vrB):vrl_G:=(d.2.1.1,d.2.1.2,d.1,d.2.2.1,d.2.2.2.1,d.2.2.2.2)
abbrev vrl_I(g:vrl_G):List Prop:=ixI vr_lim vr_xs vr_K (vrl_f g)
abbrev vrl_M(g:vrl_G):Nat:=ixM vr_lim (vrl_f g)
noncomputable abbrev vrl_RR(g:vrl_G):Ex×vrl_G:=vrl_R g.1 g.2.1 g.2.2.1 g.2.2.2.1 g.2.2.2.2.1 g.2.2.2.2.2
theorem vrl_q(xs:List Do)(n i:Int)(r:Bool)(l:Ld):vrl_q1 xs n i r () l=few21_F (xs.getD i.toNat eO.dflt)/\vrl_q2 xs n i r () l=doS l (xs.getD i.toNat eO.dflt)/\vrl_q3 xs n i r () l=true/\vrl_q4 xs n i r () l=chkL (doS l (xs.getD i.toNat eO.dflt)).l:=by
 have e2:vrl_q2 xs n i r () l=doS l (xs.getD i.toNat eO.dflt):=by unfold vrl_q2;simp only[El.ag_eq,ld_eta,ms_eta,dl_eta,do_eta]
 refine⟨by unfold vrl_q1;simp only[El.ag_eq,ms_eta,dl_eta,do_eta],e2,decide_eq_true rfl,?_⟩;unfold vrl_q4;simp only[El.ag_eq,ld_eta,e2]
theorem vrl_RF(d:Int×vrC×vrB)(hi:allP (ixI vr_lim vr_xs vr_K d)):vrl_RR (vrl_g d)=((ixF 0 vr_lim vr_xs eO.dflt vr_S d).1,vrl_g (ixF 0 vr_lim vr_xs eO.dflt vr_S d).2):=by
 obtain⟨i,⟨xs,n⟩,⟨r,⟨⟩,l⟩⟩:=d;have h:Inv l:=(hi _ (List.mem_cons_self ..)).2.2.2.2;obtain⟨q1,q2,q3,q4⟩:=vrl_q xs n i r l;show vrl_R xs n i r () l=_;unfold vrl_R ixF vr_S nxt;simp only[El.ag_eq,ld_eta,q1,q2,q3,q4];cases hc:decide (i<n)
 .rfl
 .simp only[cond_true];cases hf:few21_F (xs.getD i.toNat eO.dflt)with
  |false=>rfl
  |true=>
   have:=(inv_do h (few_few hf)).c;rw[this];rfl
theorem vrl_ok:∀b∈loopsOf Tryd.prog 4,lkey b=7->LoopOk Tryd.prog b (vrl_C vrl_I vrl_M).g:=by
 refine vrl_loop vrl_I vrl_M (λg hi=>?_) (ix_conj_goes (φ:=vrl_f) (ψ:=vrl_g) (λ_=>rfl) (λ_=>rfl) vrl_RF vr_P);obtain⟨xs,n,i,r,⟨⟩,l⟩:=g;obtain⟨h1,h2,h3,h4,h5⟩:=hi _ (List.mem_cons_self ..);have h1:n=(xs.length:Int):=h1;have h3:0<=i:=h3;have h5:Inv l:=h5;obtain⟨q1,q2,q3,q4⟩:=vrl_q xs n i r l;show vrl_side xs n i r () l;unfold vrl_side;simp only[El.okL_eq,El.ag_eq,ld_eta,ms_eta,dl_eta,do_eta,q1,q2,q3,q4,implies_true,true_and,and_true];intro hlt;have hlt:=of_decide_eq_true hlt;refine⟨⟨h3,by omega⟩,λhf=>?_⟩;have f:fewLO (l,xs.getD i.toNat eO.dflt):=⟨h5.few,few_few (by simpa using hf)⟩
 trace_state
 exact⟨f,f⟩
theorem vrl_run(xs:List Do)(r:Bool)(l:Ld)(hx:xs.length<=maxLen)(h:Inv l):loopF vrl_RR vrl_M (xs,(xs.length:Int),0,r,(),l)=(.exit 0,xs,(xs.length:Int),(xs.length:Int),r,(),xs.foldl nxt l):=by
 have h:=ix_conj_run (φ:=vrl_f) (ψ:=vrl_g) (λ_=>rfl) (λ_=>rfl) vrl_RF vr_P (xs,(xs.length:Int)) (r,(),l) rfl hx h;have hs:=scan_fold (x:=0) (st:=vr_S (xs,(xs.length:Int))) (f:=λ(b:vrB)(a:Do)=>(b.1,b.2.1,nxt b.2.2 a)) (λ_ _ _=>rfl) xs 0 (r,(),l)
 have hf:∀(ys:List Do)(l:Ld),ys.foldl (λ(b:vrB)(a:Do)=>(b.1,b.2.1,nxt b.2.2 a)) (r,(),l)=(r,(),ys.foldl nxt l):=by
  intro ys
  induction ys with
  |nil=>intro l;rfl
  |cons a ys ih=>intro l;rw[List.foldl_cons,ih];rfl
 rw[hf,Int.zero_add]at hs;rw[hs]at h;exact h
noncomputable def ltO4:LTab Tryd.prog:=LTab.nil.cons 4 7 (vrl_C vrl_I vrl_M) vrl_ok
noncomputable abbrev lamO4:Lam:=ltO4.lam
theorem lamO4_ok:∀f k L,lamO4 f k=some L->∀b∈loopsOf Tryd.prog f,lkey b=k->LoopOk Tryd.prog b L.g:=ltO4.ok
end Go.Proofs.YtfkdbifgppfegaaDoor

namespace Go.Proofs.YtfkdbifgppfegaaDoor
open Go.RowKit Go.Sx
set_option maxRecDepth 100000
abbrev aUO:DA (Int×List Do):=.cons d8 (.one dLO)
noncomputable def lvr_q1(w:Int)(s:List Do):Ld×Int:=
 newS (IntKind.i64.wrap ((IntKind.i64.wrap w).tmod (4:Int)+(1:Int)))
noncomputable def lvr_q2(w:Int)(s:List Do):Ex×
 vrl_G:=
 loopF (λg=>vrl_R g.fst g.snd.fst g.snd.snd.fst g.snd.snd.snd.fst g.snd.snd.snd.snd.fst g.snd.snd.snd.snd.snd) vrl_M (eO.lst (List.foldl (λa x=>bif false then if x.snd.snd>a then x.snd.snd else a else if x.snd.snd<a then x.snd.snd else a) (↑s.length:Int) [(true,IntKind.i64,(100:Int))]).toNat (eO.els s),(↑(List.foldl (λa x=>bif false then if x.snd.snd>a then x.snd.snd else a else if x.snd.snd<a then x.snd.snd else a) (↑s.length:Int) [(true,IntKind.i64,(100:Int))]).toNat:Int),(0:Int),false,(),Ld.mk (lvr_q1 w s).fst.workers (lvr_q1 w s).fst.stage (lvr_q1 w s).fst.ver (lvr_q1 w s).fst.cut (Dl.mk (eI.ag (lvr_q1 w s).fst.dl.drop) (eD.ag (lvr_q1 w s).fst.dl.put) (eV.ag (lvr_q1 w s).fst.dl.moves)) (eBool.ag (lvr_q1 w s).fst.voted) (lvr_q1 w s).fst.yes (lvr_q1 w s).fst.why (eN.ag (lvr_q1 w s).fst.ents))
noncomputable def lvr_F(w:Int)(s:List Do):Dv.T dBool:=
 bif (lvr_q1 w s).snd !=(0:Int)then false else bif exB Ex.ret (lvr_q2 w s).fst then(lvr_q2 w s).snd.snd.snd.snd.fst else true
def lvr_side(w:Int)(s:List Do):Prop:=
 (!true)=false->(4:Int)≠(0:Int)/\(((lvr_q1 w s).snd !=(0:Int))=false->((0:Int)<=List.foldl (λa x=>bif false then if x.snd.snd>a then x.snd.snd else a else if x.snd.snd<a then x.snd.snd else a) (↑s.length:Int) [(true,IntKind.i64,(100:Int))]/\List.foldl (λa x=>bif false then if x.snd.snd>a then x.snd.snd else a else if x.snd.snd<a then x.snd.snd else a) (↑s.length:Int) [(true,IntKind.i64,(100:Int))]<=(↑s.length:Int))/\(∀(e:Nat),e<(List.foldl (λa x=>bif false then if x.snd.snd>a then x.snd.snd else a else if x.snd.snd<a then x.snd.snd else a) (↑s.length:Int) [(true,IntKind.i64,(100:Int))]).toNat->eO.Ok (eO.els s e))/\eI.okL (lvr_q1 w s).fst.dl.drop/\eD.okL (lvr_q1 w s).fst.dl.put/\eV.okL (lvr_q1 w s).fst.dl.moves/\eBool.okL (lvr_q1 w s).fst.voted/\eN.okL (lvr_q1 w s).fst.ents/\Lp.ixJ vr_lim vr_xs vr_K (vrl_f (eO.lst (List.foldl (λa x=>bif false then if x.snd.snd>a then x.snd.snd else a else if x.snd.snd<a then x.snd.snd else a) (↑s.length:Int) [(true,IntKind.i64,(100:Int))]).toNat (eO.els s),(↑(List.foldl (λa x=>bif false then if x.snd.snd>a then x.snd.snd else a else if x.snd.snd<a then x.snd.snd else a) (↑s.length:Int) [(true,IntKind.i64,(100:Int))]).toNat:Int),(0:Int),false,(),Ld.mk (lvr_q1 w s).fst.workers (lvr_q1 w s).fst.stage (lvr_q1 w s).fst.ver (lvr_q1 w s).fst.cut (Dl.mk (eI.ag (lvr_q1 w s).fst.dl.drop) (eD.ag (lvr_q1 w s).fst.dl.put) (eV.ag (lvr_q1 w s).fst.dl.moves)) (eBool.ag (lvr_q1 w s).fst.voted) (lvr_q1 w s).fst.yes (lvr_q1 w s).fst.why (eN.ag (lvr_q1 w s).fst.ents))))
theorem lvr_okS(pre:DA.T aUO->List Prop)(h:∀g,DA.bd aUO g->(∀p∈pre g,p)->lvr_side g.1 g.2):FnPure Tryd.prog 4 aUO dBool (λg=>lvr_F g.1 g.2) pre:=pure_of_sideS (Γ:=(PTab.gamz tabZ6 [] [])) (Λ:=lamO4) (PTab.okz tabZ6 [] []) lamO4_ok 100 default (λg=>lvr_side g.1 g.2) (λg=>by kernel_rfl) (λg=>by kernel_rfl) h
end Go.Proofs.YtfkdbifgppfegaaDoor

namespace Go.Proofs.YtfkdbifgppfegaaDoor
open Go.RowKit Go.Sx Go.Lp
set_option maxRecDepth 100000
def mn100(n:Int):Int:=List.foldl (λa(x:Bool×IntKind×Int)=>bif false then if x.2.2>a then x.2.2 else a else if x.2.2<a then x.2.2 else a) n [(true,IntKind.i64,(100:Int))]
theorem mn100_le(n:Int)(h:0<=n):0<=mn100 n/\mn100 n<=n/\mn100 n<=100:=by
 show 0<=(if(100:Int)<n then(100:Int)else n)/\(if(100:Int)<n then(100:Int)else n)<=n/\(if(100:Int)<n then(100:Int)else n)<=100;split<;>omega
theorem new_q{w:Int}(h:0<=w/\w<=255):Inv (newS (IntKind.i64.wrap ((IntKind.i64.wrap w).tmod (4:Int)+(1:Int)))).1/\(newS (IntKind.i64.wrap ((IntKind.i64.wrap w).tmod (4:Int)+(1:Int)))).2=0:=by
 have e:IntKind.i64.wrap w=w:=Lp.wr (n:=w) (by omega)
 have h1:0<=w.tmod 4/\w.tmod 4<4:=by
  rw[Int.tmod_eq_emod_of_nonneg h.1];omega
 have e2:IntKind.i64.wrap (w.tmod 4+1)=w.tmod 4+1:=Lp.wr (n:=w.tmod 4+1) (by omega);rw[e,e2];exact inv_new ⟨by omega,by omega⟩
theorem lvr_ok:FnPure Tryd.prog 4 aUO dBool (λ_=>true) (λg=>[0<=g.1/\g.1<=255]):=by
 refine pure_congr (lvr_okS (λg=>[0<=g.1/\g.1<=255]) λg hb hp=>?_) λg hb hp=>?_
 .obtain⟨w,s⟩:=g;have hs:s.length<=maxLen:=hb.2.1;obtain⟨n1,n2⟩:=new_q (w:=w) (hp _ (List.mem_cons_self ..));obtain⟨m1,m2,m3⟩:=mn100_le (s.length:Int) (by omega);show lvr_side w s;unfold lvr_side;intro _;refine⟨by decide,λ_=>⟨⟨m1,m2⟩,λe _=>El.ok_els _ _ _,?_⟩⟩;simp only[El.okL_eq,El.ag_eq,ld_eta,true_and];exact ixJ0 (c:=(eO.lst (mn100 (s.length:Int)).toNat (eO.els s),((mn100 (s.length:Int)).toNat:Int))) (by rw[El.lst_length]) (by rw[El.lst_length];omega) n1
 .obtain⟨w,s⟩:=g;have hs:s.length<=maxLen:=hb.2.1;obtain⟨n1,n2⟩:=new_q (w:=w) (hp _ (List.mem_cons_self ..));obtain⟨m1,m2,m3⟩:=mn100_le (s.length:Int) (by omega);have hl:(eO.lst (mn100 (s.length:Int)).toNat (eO.els s)).length=(mn100 (s.length:Int)).toNat:=El.lst_length _ _ _;have hr:=vrl_run (eO.lst (mn100 (s.length:Int)).toNat (eO.els s)) false (newS (IntKind.i64.wrap ((IntKind.i64.wrap w).tmod (4:Int)+(1:Int)))).1 (by rw[hl];omega) n1;rw[hl]at hr
  have q2:(lvr_q2 w s).1=.exit 0:=by
   unfold lvr_q2 lvr_q1;simp only[El.ag_eq,ld_eta];exact congrArg Prod.fst hr
  show lvr_F w s=true;unfold lvr_F;rw[q2];unfold lvr_q1;rw[n2];rfl
end Go.Proofs.YtfkdbifgppfegaaDoor

namespace Go.Proofs.YtfkdbifgppfegaaDoor
open Go.ChangeShapes Go.WideShapes Go.ChangeAt Go.RowKit Go.Sx
set_option maxRecDepth 100000 in
theorem voteRuns_lifted(law:FnPure Tryd.prog 4 aUO dBool (λ_=>true) (λg=>[0<=g.1/\g.1<=255]))(os:Os)(started:os.Started)(H:Type)(enc:TypeId×Value->H):
  ReturnsInHanded {} Tryd.checked os 4 .any (λw args=>(Rows.voteRunsSpec.pre enc Tryd.prog Tryd.f4 Rows.voteRunsRow.domain false w args/\laidMetH Tryd.prog Rows.voteRunsRow.laid w)/\sizedMet enc Tryd.prog Tryd.f4 (OpenSpec.ofChange Rows.voteRunsSpec) false w args) (Rows.voteRunsSpec.post enc Tryd.prog Tryd.f4 false true false false):=by
 refine rowLaid (C:=Tryd.checked) (laid:=Rows.voteRunsRow.laid) Tryd.own started (by kernel_rfl) Tryd.func4
  (ChangeSpec.witness_shaped (enc:=enc) (C:=Tryd.checked) (os:=os) (X:=λw _=>laidMetH Tryd.prog Rows.voteRunsRow.laid w) false (World.laidAll Tryd.prog os Rows.voteRunsRow.laid) #[.int .u8 0,.slice none 0 0] 8 (World.laidAll_os _ _ _)
   (World.shaped_of_ZipB (by kernel_rfl) (by kernel_rfl)) (by kernel_rfl) (by kernel_rfl) (by kernel_rfl)
   (by rw[MakeChecks.laidMetH_plain _ _ _ (by kernel_rfl)];exact laidMet_laidAll _ (by kernel_rfl) (by kernel_rfl))) ?_
 intro W base args ds gs before hval0 hW hcnd hL hsh;have hval:∀(j:Nat)t v,Tryd.f4.params[j]?=some t->args[j]?=some v->Value.okWide Tryd.prog W .any base t v:=hval0;have hW':=hW;obtain⟨p,q,hA0,hV,rfl,hfz,hnd⟩:=hW;have hA:DataW.TrodAll enc Tryd.prog W 0 (λ_=>true) true Tryd.f4.params.toList args.toList ds p:=hA0;rw[Tryd.params4]at hA hval;obtain⟨v0,vs0,d0,ds0,p0,qq0,hargs,rfl,rfl,h0,r0⟩:=trodAll_cons hA;obtain⟨v1,vs1,d1,ds1,p1,qq1,rfl,rfl,rfl,h1,r1⟩:=trodAll_cons r0;obtain⟨rfl,rfl,rfl⟩:=trodAll_nil r1;obtain rfl:args=#[v0,v1]:=by cases args;simp_all
 obtain⟨rfl,rfl⟩:=trodVars_none hV;obtain⟨a0,q0,f0⟩:=rdv8 _ _ _ _ _ _ _ _ _ _ _ (hval 0 5 v0 rfl rfl) h0;obtain⟨a1,q1,f1⟩:=rdvLO _ _ _ _ _ _ _ _ _ _ _ (hval 1 47 v1 rfl rfl) h1
 have lt:∀{t:TypeId}{v:Value}{d:DataW H}{ps:List MemPlace},DataW.Trod enc Tryd.prog W 0 (λ_=>true) true t v d ps->∀x∈ps,x.block<W.heap.size:=by
  rintro t v d ps ⟨m,hm⟩;exact DataW.trod_lt m _ _ _ hm
 clear hA0 hval0;refine(law W (λb=>W.heap[b]?) (a0,a1) [v0,v1] (λ_ _ h=>h) (rowEnv hL hsh) (by intro p hp;rw[List.mem_singleton.1 hp];exact wf8 q0) ⟨f0,f1,trivial⟩).mono λe W'⟨x,he,bel,hx⟩=>?_;obtain rfl:x=.bool true:=by simpa [dBool,SV.fit]using hx
 subst he
 exact⟨_,rfl,_,_,_,[],_,[],hW',trodAll_mk1 (shut_bool Tryd.underlying4 _),
  (trodAll_cons_mk (Below.trod Tryd.laidOut (by kernel_rfl) (of_decide_eq_true (by kernel_rfl)) h0 bel (lt h0))
  (trodAll_cons_mk (Below.trod Tryd.laidOut (by kernel_rfl) (of_decide_eq_true (by kernel_rfl)) h1 bel (lt h1)) trodAll_mk0)),rfl,bel.frame _,λh=>by cases h⟩
theorem voteRuns_row:Rows.VoteRunsSaid:=
 OpenClaim.holds_of_wide 4 Tryd.f4 rfl rfl rfl rfl rfl rfl rfl ⟨rfl,rfl,rfl,rfl,rfl⟩ rfl rfl rfl rfl rfl (by kernel_rfl) Tryd.func4 (by kernel_rfl)
  (of_decide_eq_true (by kernel_rfl)) (by unfold Func.isWrapper;first|(rw[if_pos (by decide+kernel)];kernel_rfl)|(rw[if_neg (by decide+kernel)];exact⟨rfl,rfl⟩))
  (λos started H enc _=>voteRuns_lifted lvr_ok os started H enc)
theorem voteRuns_holds:Rows.VoteRunsCardSaid:=
 Claim7.holds_tied_plain_at .later [] [.data,.pinned] true (true, "52912e261b64727618714ac4c8b505d61cbd702586b223c189c270799d03a0f4") false voteRuns_row (λ_ h=>by cases h) (by kernel_rfl) (λ_ h=>by cases h) voteRuns_row_tie rfl ⟨rfl,rfl⟩ (by kernel_rfl) rfl
  (λf fn hf hfn=>by
   obtain rfl:f=4:=Option.some.inj ((show Tryd.prog.funcNamed "rivulet/rivuletlaw21.VoteRuns" =some 4 by kernel_rfl).symm.trans hf) |>.symm;obtain rfl:fn=Tryd.f4:=(Option.some.inj (Tryd.func4.symm.trans hfn)).symm
   exact⟨by kernel_rfl,λj t ht=>by
    rw[Tryd.params4]at ht;have hm:t∈[5,47]:=by simpa using Array.mem_of_getElem? ht
    have hall:([5,47].all λu=>!Tryd.prog.wantsStandIn u)=true:=by kernel_rfl
    exact(show Tryd.prog.wantsStandIn t=false by simpa using List.all_eq_true.1 hall t hm)⟩)
  (by kernel_rfl)
end Go.Proofs.YtfkdbifgppfegaaDoor
