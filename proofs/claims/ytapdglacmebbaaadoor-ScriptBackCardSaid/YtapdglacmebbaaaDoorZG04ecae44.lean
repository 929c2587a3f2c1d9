/- Regions whose order is drawn: soundness. -/
import Derived.Test.YtapdglacmebbaaaDoorZG03751678
import Derived.LoopNIn
import Derived.RangeFuncRecord
set_option linter.unusedVariables false
set_option linter.unusedSimpArgs false
set_option linter.constructorNameAsVariable false
set_option linter.all false

namespace Go.Sx
open Go.RowKit
variable[Env]
theorem q7o{α:Type}{p:α×Nat->Bool}{l:List α}(h:l.zipIdx.all p=true){i:Nat}{x:α}(hx:l[i]?=some x):p (x,i)=true:=by
 rw[List.all_eq_true]at h;exact h (x,i) (by rw[List.mk_mem_zipIdx_iff_getElem?];exact hx)
theorem zipIdx_take_all{α:Type}{p:α×Nat->Bool}{l:List α}{j:Nat}(h:(l.zipIdx.take j).all p=true){i:Nat}{x:α}(hx:l[i]?=some x)(hij:i<j):p (x,i)=true:=by
 rw[List.all_eq_true]at h;refine h (x,i) ?_;rw[List.mem_iff_getElem?];refine⟨i,?_⟩;rw[List.getElem?_take,if_pos hij,List.getElem?_zipIdx,hx];simp
section
variable{P:Program}{M:Nat->Prop}{w0:World}
theorem any_beq{l:List Nat}{t:Nat}(h:t∈l):l.any (Nat.beq t)=true:=by
 rw[List.any_eq_true];exact⟨t,h,by simp⟩
theorem draw_lin{Q:Nat->Bool}{tq:Bool}{fr:Op->Bool}{run yld:Nat->Con}(hrun:∀f,FnOk P f (run f))(hyld:YldOk P yld)(hQ:∀f,Q f=true->∀args h,(run f args h).Each λy=>y.2=h)(hI:∀f,Q f=true->∀args,args.all noId=true->Indep λh=>run f args h){ops:Array Oper}(hback:backOk ops.toList=true)(hpairs:pairsOk P Q tq fr ops.toList (befs ops.toList [])=true)
  {w:World} {ρ0:Rh} {σ:St} {a:Act} {K:St->Prop} {rd:Option Nat} (hK:(q56 P Q tq fr run yld ops ops.toList σ).Holds K) (hm:Mod M w0 ρ0 σ a w) {Qx:Exit->Act->World->Prop}
  (hQx:∀σ' ρ' a' w',K σ'->σ.h.nx<=σ'.h.nx->Agree σ.h.nx ρ0 ρ'->Mod M w0 ρ' σ' a' w'->Qx .normal a' w') {L:List Nat} (hlin:Lin ops.toList (λ_=>False) L) {w1:World} (hw1:Below w.heap.size w w1):wpOpsIn (Fw rd) 0 P ops Qx L a w1:=by
 have hb:∀i o,ops[i]?=some o->∀e∈q2c o,e<i:=by
  intro i o ho e he;have:=q7o hback (i:=i) (x:=o) (by simpa using ho);simp only[List.all_eq_true]at this;have:=this e he;simpa [Nat.blt_eq]using this
 have hlist:∀i:Nat,ops.toList[i]?=ops[i]?:=by simp
 have hpair:∀(E:Nat->Prop),EClosed ops.toList E->∀i j oi oj,i<j->ops[i]?=some oi->ops[j]?=some oj->needs P Q tq fr ops.toList oi oj=true->(∀e∈q2c oj,E e)->E i:=by
  intro E hE i j oi oj hij hoi hoj hn he;have h1:=q7o hpairs (i:=j) (x:=oj) (by simpa using hoj);have h2:=zipIdx_take_all h1 (i:=i) (x:=oi) (by simpa using hoi) hij;simp only[hn,Bool.not_true,Bool.false_or]at h2;exact befs_ok hE ops.toList [] [] rfl rfl (λi o hi=>by simp at hi) j oj (by simpa using hoj) he i h2
 obtain⟨σn,st,g,s,H,T,hKn,tr⟩:=trace_ok (P:=P) ops.toList 0 σ σ.slot (by simp) (λ_ _ _ _ h=>h) hK;rw[Nat.zero_add]at tr;have hnlen:ops.toList.length=ops.size:=by simp
 rw[hnlen]at tr
 have hquiet:∀i o,i<ops.size->ops[i]?=some o->q2m P Q tq o.op=true->H (i+1)=H i:=by
  intro i o hi ho hq;cases hg:g i with
  |false=>exact(tr.no i (Nat.zero_le _) hi hg).1
  |true=>
   exact tr.each i o (Nat.zero_le _) hi ho hg _ (each_op (P:=P) (h:=H i) (yld:=yld) hQ (ev:=(st i).ev) (λ_=>rfl) (λht=>tr.callq i o (Nat.zero_le _) hi ho hg ht) hq)
 have hHconst:∀b a',a'<=b->b<=ops.size->(∀j o,a'<=j->j<b->ops[j]?=some o->q2m P Q tq o.op=true)->H b=H a':=by
  intro b
  induction b with
  |zero=>intro a' h _ _;have:a'=0:=by omega
         rw[this]
  |succ b ih=>
   intro a' hab hbn hq;by_cases hab':a'=b+1
   .rw[hab']
   .have ho:ops[b]?=some ops[b]:=getElem?_pos ops b (by omega);rw[hquiet b _ (by omega) ho (hq b _ (by omega) (by omega) ho)];exact ih a' (by omega) (by omega) λj o h1 h2 h3=>hq j o h1 (by omega) h3
 have hTconst:∀t b a',a'<=b->b<=ops.size->(∀j o,a'<=j->j<b->ops[j]?=some o->o.dst≠some t)->T b t=T a' t:=by
  intro t b
  induction b with
  |zero=>intro a' h _ _;have:a'=0:=by omega
         rw[this]
  |succ b ih=>
   intro a' hab hbn hq;by_cases hab':a'=b+1
   .rw[hab']
   .have ho:ops[b]?=some ops[b]:=getElem?_pos ops b (by omega);rw[tr.next b _ t (Nat.zero_le _) (by omega) ho,if_neg (hq b _ (by omega) (by omega) ho)];exact ih a' (by omega) (by omega) λj o h1 h2 h3=>hq j o h1 (by omega) h3
 have main:∀(L:List Nat)(E:Nat->Prop)(ρ:Rh)(a:Act)(w:World)(k:Nat),Lin ops.toList E L->EClosed ops.toList E->(∀j,E j->j<ops.size)->k<=ops.size->
   (∀j o,ops[j]?=some o->q2m P Q tq o.op=false->(E j↔j<k))->HM M w0 ρ (H k) w->σ.h.nx<=(H k).nx->Agree σ.h.nx ρ0 ρ->a.tmps.size=σ.n->Dfs M w0 ρ σ.d a.defers->
   (∀t,t<σ.n->∀i,i<=ops.size->(∀j o,ops[j]?=some o->o.dst=some t->(E j↔j<i))->(T i t).fit (H k).nx ρ (a.tmps.getD t undef))->
   wpOpsIn (Fw rd) 0 P ops Qx L a w:=by
  intro L
  induction L with
  |nil=>
   intro E ρ a w k hlin hcl hEn hk heff hHM hnx hag hsz hdf hsl;simp only[wpOpsIn]
   have hall:∀i,i<ops.size->E i:=by
    cases hlin with
    |nil h=>intro i hi;exact h i (by simpa using hi)
   have hHk:H ops.size=H k:=hHconst ops.size k hk (Nat.le_refl _) λj o h1 h2 h3=>by
    cases hq:q2m P Q tq o.op with
    |true=>rfl
    |false=>have:=(heff j o h3 hq).1 (hall j h2);omega
   rw[<-hHk,tr.hn]at hHM hnx;refine hQx σn ρ a w hKn hnx hag ⟨⟨by rw[tr.nn];exact hsz,λt ht=>?_⟩,by rw[tr.dn];exact hdf,λi hi=>?_,hHM⟩
   .rw[tr.nn]at ht
    have h1:=hsl t ht ops.size (Nat.le_refl _) (λj o ho _=>by
     have:j<ops.size:=(Array.getElem?_eq_some_iff.1 ho).1;exact⟨λ_=>this,λ_=>hall j this⟩)
    rw[<-hHk,tr.hn]at h1;rw[St.look_lg];exact tr.tn t _ _ _ h1
   .rw[tr.dn]at hi;exact Nat.lt_of_lt_of_le (hm.dl i hi) hnx
  |cons i L ih=>
   intro E ρ a w k hlin hcl hEn hk heff hHM hnx hag hsz hdf hsl;cases hlin with
   |cons ho hnE hed hrest=>
    rename_i o;have ho':ops[i]?=some o:=by simpa using ho
    have hi:i<ops.size:=(Array.getElem?_eq_some_iff.1 ho').1
    have hcl':EClosed ops.toList (λj=>E j\/j=i):=by
     rintro j oj (hj|rfl) hoj e he
     .exact .inl (hcl j oj hj hoj e he)
     .rw[ho]at hoj;injection hoj with hoj;subst hoj
      exact .inl (hed e he)
    have hord:∀j oj,ops[j]?=some oj->j≠i->needs P Q tq fr ops.toList oj o=true->needs P Q tq fr ops.toList o oj=true->(E j↔j<i):=by
     intro j oj hoj hji hn1 hn2;constructor
     .intro hj;rcases Nat.lt_or_gt_of_ne hji with h|h
      .exact h
      .exact absurd (hpair E hcl i j o oj h ho' hoj hn2 (hcl j oj hj (by simpa using hoj))) hnE
     .intro h;exact hpair E hcl j i oj o h hoj ho' hn1 hed
    have hneedL:freeF P Q fr o.op=false->∀oj,q2m P Q tq oj.op=false->needs P Q tq fr ops.toList oj o=true/\needs P Q tq fr ops.toList o oj=true:=by
     intro hfo oj hq;constructor<;>simp[needs,hq,hfo]
    have hneedW:∀oj t,oj.dst=some t->(o.dst=some t\/t∈tmpsOf ops.toList o)->needs P Q tq fr ops.toList oj o=true/\needs P Q tq fr ops.toList o oj=true:=by
     intro oj t ht hor;rcases hor with h|h
     .constructor<;>simp[needs,ht,h]
     .constructor
      .simp[needs,ht,any_beq h]
      .simp[needs,ht,any_beq h]
    have hHi:freeF P Q fr o.op=false->H i=H k:=by
     intro hfo;rcases Nat.le_total k i with hki|hki
     .exact hHconst i k hki (by omega) λj oj h1 h2 h3=>by
       cases hq:q2m P Q tq oj.op with
       |true=>rfl
       |false=>
        have hn:=hneedL hfo oj hq;have e1:=(hord j oj h3 (by omega) hn.1 hn.2).2 h2;have:=(heff j oj h3 hq).1 e1;omega
     .exact(hHconst k i hki hk λj oj h1 h2 h3=>by
       cases hq:q2m P Q tq oj.op with
       |true=>rfl
       |false=>
        by_cases hji:j=i
        .subst hji;exact absurd ((heff j oj h3 hq).2 h2) hnE
        .have hn:=hneedL hfo oj hq;have e1:=(heff j oj h3 hq).2 h2;have:=(hord j oj h3 hji hn.1 hn.2).1 e1;omega).symm
    have hread:∀t,t∈tmpsOf ops.toList o->t<σ.n->(T i t).fit (H k).nx ρ (a.tmps.getD t undef):=by
     intro t ht htn;refine hsl t htn i (by omega) λj oj hoj hdst=>?_;by_cases hji:j=i
     .subst hji;exact⟨λh=>absurd h hnE,λh=>by omega⟩
     .have hn:=hneedW oj t hdst (.inr ht);exact hord j oj hoj hji hn.1 hn.2
    have hwanted:Region.wanted o (yielded ops a.tmps)=g i:=by
     by_cases hg:∃j w d,o.guard=some (j,w)/\(ops[j]?).bind (·.dst)=some d
     .obtain⟨j,wv,d,h1,h2⟩:=hg;have hdn:=tr.glt i o j wv d (Nat.zero_le _) hi ho' h1 h2
      .refine tr.guard i o (Nat.zero_le _) hi ho' a.tmps (H k).nx ρ hsz λj' w' d' h1' h2'=>?_;rw[h1]at h1';injection h1' with h1';injection h1' with e1 e2;subst e1
       rw[h2]at h2';injection h2' with e3;subst e3
       refine hread d ?_ hdn;simp only[tmpsOf,h1,hlist];cases hoj:ops[j]? with
       |none=>rw[hoj]at h2;cases h2
       |some og=>
        rw[hoj]at h2;simp only[Option.bind_some]at h2;simp[h2]
     .exact tr.guard i o (Nat.zero_le _) hi ho' a.tmps (H k).nx ρ hsz λj w d h1 h2=>absurd ⟨j,w,d,h1,h2⟩ hg
    have fin:∀(h2:SH),(freeF P Q fr o.op=true/\h2=H k\/freeF P Q fr o.op=false/\h2=H (i+1))->∀(ρ':Rh)(x:Value)(w':World),(H k).nx<=h2.nx->Agree (H k).nx ρ ρ'->HM M w0 ρ' h2 w'->(s i).fit h2.nx ρ' x->wpOpsIn (Fw rd) 0 P ops Qx L (a.put o.dst x) w':=by
     intro h2 hor ρ' x w' hn1 ha1 hHM1 hfx
     have hk':∃k',k'<=ops.size/\H k'=h2/\∀j oj,ops[j]?=some oj->q2m P Q tq oj.op=false->((E j\/j=i)↔j<k'):=by
      cases hq:q2m P Q tq o.op with
      |true=>
       refine⟨k,hk,?_,λj oj hoj hqj=>?_⟩
       .rcases hor with ⟨_,rfl⟩|⟨hfo,rfl⟩
        .rfl
        .rw[hquiet i o hi ho' hq,hHi hfo]
       have hji:j≠i:=by
        rintro rfl;rw[ho']at hoj;injection hoj with hoj;subst hoj
        rw[hq]at hqj;cases hqj
       rw[<-heff j oj hoj hqj];exact⟨λh=>h.resolve_right hji,.inl⟩
      |false=>
       have hfo:freeF P Q fr o.op=false:=by
        cases hf:freeF P Q fr o.op with
        |false=>rfl
        |true=>rw[freeF_quiet hf]at hq;cases hq
       rcases hor with ⟨hf,_⟩|⟨_,rfl⟩
       .rw[hfo]at hf;cases hf
       refine⟨i+1,by omega,rfl,λj oj hoj hqj=>?_⟩;by_cases hji:j=i
       .subst hji;exact⟨λ_=>Nat.lt_succ_self _,λ_=>.inr rfl⟩
       .have hn:=hneedL hfo oj hqj;have e1:=hord j oj hoj hji hn.1 hn.2;constructor
        .rintro(h|h)
         .have:=e1.1 h;omega
         .exact absurd h hji
        .intro h;exact .inl (e1.2 (by omega))
     obtain⟨k',hk'n,hHk',heff'⟩:=hk'
     refine ih (λj=>E j\/j=i) ρ' (a.put o.dst x) w' k' hrest hcl' (λj hj=>hj.elim (hEn j) λe=>e▸hi) hk'n heff' (by rw[hHk'];exact hHM1) (by rw[hHk'];exact Nat.le_trans hnx hn1) (hag.trans hnx ha1)
      (by rw[put_size];exact hsz) (by rw[put_defers];exact hdf.mono (Agree.trans (Agree.refl _ _) hnx ha1) hm.dl) λt htn i' hi' hw=>?_
     rw[hHk'];by_cases hdt:o.dst=some t
     .have hlt:i<i':=(hw i o ho' hdt).1 (.inr rfl);have hT1:T (i+1) t=s i:=by rw[tr.next i o t (Nat.zero_le _) hi ho',if_pos hdt]
      have hT2:T i' t=T (i+1) t:=hTconst t i' (i+1) (by omega) hi' λj oj h1 h2 h3 h4=>by
       have hE:=(hw j oj h3 h4).2 h2;have hji:j≠i:=by omega
       have hn:=hneedW oj t h4 (.inl hdt);have:=(hord j oj h3 hji hn.1 hn.2).1 (hE.resolve_right hji);omega
      rw[hT2,hT1,hdt];have htz:t<a.tmps.size:=by rw[hsz];exact htn
      simp only[Act.put,Array.getD_eq_getD_getElem?,Array.getElem?_setIfInBounds,htz,if_true,Option.getD_some];exact hfx
     .have hold:=hsl t htn i' hi' λj oj hoj hdst=>by
       rw[<-hw j oj hoj hdst]
       have hji:j≠i:=by
        rintro rfl;rw[ho']at hoj;injection hoj with hoj;subst hoj
        exact hdt hdst
       exact⟨.inl,λh=>h.resolve_right hji⟩
      have:(a.put o.dst x).tmps.getD t undef=a.tmps.getD t undef:=by
       cases hdd:o.dst with
       |none=>rfl
       |some d=>
        simp only[Act.put,Array.getD_eq_getD_getElem?,Array.getElem?_setIfInBounds];rw[if_neg (λe=>hdt (by rw[hdd,e]))]
      rw[this];exact SV.fit_mono hn1 ha1 _ _ hold
    simp only[wpOpsIn,ho',hwanted];cases hg:g i with
    |true=>
     rw[if_pos rfl];have hy:=tr.yes i o (Nat.zero_le _) hi ho' hg;have himp:=tr.imp i (Nat.zero_le _) hi
     let ev':Operand->SV:=λx=>match x with
      | .tmp t=>if t∈tmpsOf ops.toList o then(st i).ev (.tmp t)else .u
      |x=>(st i).ev x
     have hceq:∀x∈o.op.operands,ev' x=(st i).ev x:=λx hx=>by
      cases x with
      |tmp t=>
       have:t∈tmpsOf ops.toList o:=by
        simp only[tmpsOf,List.mem_append,List.mem_filterMap];exact .inl ⟨.tmp t,by simpa using hx,rfl⟩
       simp only[ev',if_pos this]
      |_=>rfl
     have hcong:opS P run yld ev' (H i) o.op=opS P run yld (st i).ev (H i) o.op:=opS_congr hceq
     have hy':∃h2,(freeF P Q fr o.op=true/\h2=H k\/freeF P Q fr o.op=false/\h2=H (i+1))/\(opS P run yld ev' (H k) o.op).Holds (·=(s i,h2)):=by
      cases hfo:freeF P Q fr o.op with
      |true=>
       rw[<-hcong]at hy
       exact⟨H k,.inl ⟨rfl,rfl⟩,freeF_holds hI (λ_=>rfl) hfo (λh1 h2=>by
        rw[rdOk_congr (ev':=(st i).ev) (λx hx=>hceq x hx)];exact tr.freq i o (Nat.zero_le _) hi ho' hg h1 h2) hy⟩
      |false=>
       rw[<-hcong,hHi hfo]at hy;exact⟨H (i+1),.inr ⟨rfl,rfl⟩,hy⟩
     obtain⟨h2x,hor,hy⟩:=hy'
     have hev:∀x,(ev' x).fit (H k).nx ρ (a.eval x):=by
      intro x;cases x with
      |tmp t=>
       simp only[ev'];by_cases ht:t∈tmpsOf ops.toList o
       .rw[if_pos ht];simp only[St.ev,himp.2,Act.eval];cases hbl:Nat.blt t σ.n with
        |true=>
         have htn:t<σ.n:=by simpa [Nat.blt_eq]using hbl
         simp only[cond_true];exact himp.1 t _ _ _ (hread t ht htn)
        |false=>
         have:¬t<σ.n:=by
          intro h;have:Nat.blt t σ.n=true:=by simpa [Nat.blt_eq]using h
          rw[this]at hbl;cases hbl
         simp only[cond_false,SV.fit,Array.getD];rw[dif_neg (λhlt=>this (hsz▸hlt))]
       .rw[if_neg ht];trivial
      |const v=>simp[ev',St.ev,Act.eval,SV.fit]
      |global gl=>simp[ev',St.ev,Act.eval,SV.fit]
      |func f=>simp[ev',St.ev,Act.eval,SV.fit,SV.fits]
     have hop:=op_ok (P:=P) hrun hyld (o:=o) (a:=a) hHM hev hy;refine hop rd _ _ λs' h' ρ' x w' h1 h2 h3 h4 h5=>?_;injection h1 with e1 e2
     subst e1;subst e2;exact fin _ hor ρ' x w' h2 h3 h4 h5
    |false=>
     rw[if_neg (by simp)];refine⟨λ_ _=>trivial,?_⟩;obtain⟨e1,e2⟩:=tr.no i (Nat.zero_le _) hi hg
     have hor:freeF P Q fr o.op=true/\H k=H k\/freeF P Q fr o.op=false/\H k=H (i+1):=by
      cases hfo:freeF P Q fr o.op with
      |true=>exact .inl ⟨rfl,rfl⟩
      |false=>exact .inr ⟨rfl,by rw[e1,hHi hfo]⟩
     refine fin (H k) hor ρ undef w (Nat.le_refl _) (Agree.refl _ _) hHM ?_;rw[e2];rfl
 refine main _ _ ρ0 a _ 0 hlin (λj o h=>h.elim) (λj h=>h.elim) (Nat.zero_le _) (λj o _ _=>⟨λh=>h.elim,λh=>by omega⟩) (by rw[tr.h0];exact hm.hp.below hw1) (by rw[tr.h0];exact Nat.le_refl _) (Agree.refl _ _)
  hm.tm.1 hm.df λt ht i hi hw=>?_
 have:T i t=T 0 t:=hTconst t i 0 (Nat.zero_le _) hi λj o h1 h2 h3 h4=>((hw j o h3 h4).2 h2).elim;rw[this,tr.t0,tr.h0];have:=hm.tm.2 t ht
 rwa [St.look_lg]at this
theorem draw_ok{Q:Nat->Bool}{tq:Bool}{fr:Op->Bool}{run yld:Nat->Con}(hrun:∀f,FnOk P f (run f))(hyld:YldOk P yld)(hQ:∀f,Q f=true->∀args h,(run f args h).Each λy=>y.2=h)(hI:∀f,Q f=true->∀args,args.all noId=true->Indep λh=>run f args h){ops:Array Oper}(hd:q9y P Q tq fr ops=true){id:Nat}
  {w:World} {ρ0:Rh} {σ:St} {a:Act} {K:St->Prop} {rd:Option Nat} (hK:(q56 P Q tq fr run yld ops ops.toList σ).Holds K) (hm:Mod M w0 ρ0 σ a w) {Qx:Exit->Act->World->Prop}
  (hQx:∀σ' ρ' a' w',K σ'->σ.h.nx<=σ'.h.nx->Agree σ.h.nx ρ0 ρ'->Mod M w0 ρ' σ' a' w'->Qx .normal a' w'):(Code.region id ops true).wpIn (Fw rd) 0 P Qx a w:=by
 simp only[q9y,Bool.and_eq_true]at hd;obtain⟨⟨hmix,hback⟩,hpairs⟩:=hd
 have hb:∀i o,ops[i]?=some o->∀e∈q2c o,e<i:=by
  intro i o ho e he;have:=q7o hback (i:=i) (x:=o) (by simpa using ho);simp only[List.all_eq_true]at this;have:=this e he;simpa [Nat.blt_eq]using this
 exact wpIn_region_draw λt=>draw_lin hrun hyld hQ hI hback hpairs hK hm hQx (lin_all hb hmix t) ⟨rfl,rfl,rfl,Nat.le_refl _,λ_ _=>rfl⟩
end
end Go.Sx

namespace Go.Sx
open Go.RowKit
variable[Env]
def q87(π:List Nat)(X:List (Nat×Nat))(i:Nat)(o:Oper):Oper:=
 { o with after:=((q2c o).map (λe=>(⟨π.idxOf e,.data⟩:Edge))++(X.filter λx=>Nat.beq x.2 i).map λx=>(⟨π.idxOf x.1,.data⟩:Edge)).toArray,guard:=o.guard.map λg=>(π.idxOf g.1,g.2)}
def remap(π:List Nat)(X:List (Nat×Nat))(ops:Array Oper):Array Oper:=
 (π.filterMap λi=>(ops[i]?).map (q87 π X i)).toArray
theorem edges_remap(π:List Nat)(X:List (Nat×Nat))(i:Nat)(o:Oper):q2c (q87 π X i o)=(q2c o).map (λe=>π.idxOf e)++(X.filter λx=>Nat.beq x.2 i).map λx=>π.idxOf x.1:=by
 unfold q87;show((((q2c o).map (λe=>(⟨π.idxOf e,.data⟩:Edge))++(X.filter λx=>Nat.beq x.2 i).map λx=>(⟨π.idxOf x.1,.data⟩:Edge)).toArray.toList.filter λe=>Region.binds .any e).map (·.on))=_;rw[List.toList_toArray,List.filter_eq_self.2,List.map_append,List.map_map,List.map_map]
 .rfl
 .intro e he;rcases List.mem_append.1 he with h|h
  .obtain⟨x,_,rfl⟩:=List.mem_map.1 h;rfl
  .obtain⟨x,_,rfl⟩:=List.mem_map.1 h;rfl
theorem remap_get{π:List Nat}{X:List (Nat×Nat)}{ops:Array Oper}(hv:∀i∈π,i<ops.size)(hn:π.Nodup){i:Nat}(hi:i∈π):(remap π X ops)[π.idxOf i]?=(ops[i]?).map (q87 π X i):=by
 have key:∀(l:List Nat),(∀i∈l,i<ops.size)->∀i∈l,(l.filterMap λi=>(ops[i]?).map (q87 π X i))[l.idxOf i]?=(ops[i]?).map (q87 π X i):=by
  intro l
  induction l with
  |nil=>intro _ i h;cases h
  |cons j l ih=>
   intro hv i hi
   have hj:ops[j]?=some ops[j]!:=by
    have:=hv j (List.mem_cons_self ..);rw[getElem?_pos ops j this,getElem!_pos ops j this]
   rw[List.filterMap_cons,hj];simp only[Option.map_some];by_cases hij:i=j
   .subst hij;rw[List.idxOf_cons_self,hj];rfl
   .have hji:(j==i)=false:=by simpa usingλe:j=i=>hij e.symm
    rw[List.idxOf_cons,hji];simp only[cond_false,List.getElem?_cons_succ];rcases List.mem_cons.1 hi with h|h
    .exact absurd h hij
    .exact ih (λi h=>hv i (List.mem_cons_of_mem _ h)) i h
 unfold remap;rw[List.getElem?_toArray];exact key π hv i hi
section
variable{P:Program}
theorem upon_mono{F:Fence}{n:Nat}{o:Oper}{a:Act}{next next':Act->World->Prop}{Q:Exit->Act->World->Prop}(hi:∀a w,next a w->next' a w):∀{r:Result Next},o.uponIn F n P a next Q r->o.uponIn F n P a next' Q r
 | .ok (.value v) w',h=>hi _ _ h
 | .ok .skip w',h=>hi _ _ h
 | .ok (.defer d) w',h=>hi _ _ h
 | .ok (.enter f args) w',h=>⟨h.1,CallsIn.mono h.2 λe w''=>by
   cases e with
   |returned v=>exact hi _ _
   |panicked c=>exact id
   |outgrown=>exact id⟩
 | .ok (.row row args) w',h=>⟨h.1,RowsIn.mono h.2 λv w''=>hi _ _⟩
 | .ok (.round l f tmps asg body) w',h=>⟨h.1,RoundIn.mono h.2 λe w''=>by
   cases e with
   |returned v=>exact hi _ _
   |panicked c=>exact id
   |outgrown=>exact id⟩
 | .halt (.panic v) w',h=>h
theorem wp_mono'{F:Fence}{n:Nat}{o:Oper}{a:Act}{w:World}{next next':Act->World->Prop}{Q:Exit->Act->World->Prop}(hi:∀a w,next a w->next' a w)(h:o.wpIn F n P a w next Q):o.wpIn F n P a w next' Q:=⟨h.1,upon_mono hi h.2⟩
theorem q53{i j:Nat}{l:List Nat}(h:i≠j):(j::l).idxOf i=l.idxOf i+1:=by
 have hji:(j==i)=false:=by simpa usingλe:j=i=>h e.symm
 rw[List.idxOf_cons,hji];rfl
theorem pos_inj:∀{l:List Nat}{i k:Nat},i∈l->k∈l->l.idxOf i=l.idxOf k->i=k
 |j::l,i,k,hi,hk,h=>by
  by_cases h1:i=j
  .by_cases h2:k=j
   .rw[h1,h2]
   .subst h1;rw[List.idxOf_cons_self,q53 h2]at h;omega
  .by_cases h2:k=j
   .subst h2;rw[List.idxOf_cons_self,q53 h1]at h;omega
   .rw[q53 h1,q53 h2]at h;exact pos_inj ((List.mem_cons.1 hi).resolve_left h1) ((List.mem_cons.1 hk).resolve_left h2) (by omega)
theorem pos_surj:∀{l:List Nat},l.Nodup->∀q,q<l.length->∃i∈l,l.idxOf i=q
 |j::l,hn,0,_=>⟨j,List.mem_cons_self ..,List.idxOf_cons_self⟩
 |j::l,hn,q+1,hq=>by
  rw[List.nodup_cons]at hn;obtain⟨i,hi,e⟩:=pos_surj hn.2 q (by simpa using hq);have:i≠j:=λh=>hn.1 (h▸hi);exact⟨i,List.mem_cons_of_mem _ hi,by rw[q53 this,e]⟩
def InLine(X:List (Nat×Nat))(L:List Nat):Prop:=∀x∈X,L.idxOf x.1<L.idxOf x.2
theorem remap_len{π:List Nat}{X:List (Nat×Nat)}{ops:Array Oper}(hv:∀i∈π,i<ops.size):(remap π X ops).toList.length=π.length:=by
 have key:∀l:List Nat,(∀i∈l,i<ops.size)->(l.filterMap λi=>(ops[i]?).map (q87 π X i)).length=l.length:=by
  intro l
  induction l with
  |nil=>intro _;rfl
  |cons j l ih=>
   intro hv
   have hj:ops[j]?=some ops[j]!:=by
    have:=hv j (List.mem_cons_self ..);rw[getElem?_pos ops j this,getElem!_pos ops j this]
   rw[List.filterMap_cons,hj];simp only[Option.map_some,List.length_cons];rw[ih λi h=>hv i (List.mem_cons_of_mem _ h)]
 unfold remap;rw[List.toList_toArray];exact key π hv
theorem yielded_remap{π:List Nat}{X:List (Nat×Nat)}{ops:Array Oper}(hv:∀i∈π,i<ops.size)(hall:∀i,i<ops.size->i∈π)(hn:π.Nodup)(tm:Array Value)(j:Nat):yielded (remap π X ops) tm (π.idxOf j)=yielded ops tm j:=by
 unfold yielded;by_cases hj:j∈π
 .rw[remap_get hv hn hj];cases ops[j]? <;>rfl
 .have h1:ops[j]?=none:=Array.getElem?_eq_none (by
   rcases Nat.lt_or_ge j ops.size with h|h
   .exact absurd (hall j h) hj
   .exact h)
  have h2:(remap π X ops)[π.idxOf j]?=none:=Array.getElem?_eq_none (by
   have:=remap_len (X:=X) hv;rw[Array.length_toList]at this;rw[this,List.idxOf_eq_length hj];exact Nat.le_refl _)
  rw[h1,h2]
theorem wanted_remap{π:List Nat}{X:List (Nat×Nat)}{ops:Array Oper}(hv:∀i∈π,i<ops.size)(hall:∀i,i<ops.size->i∈π)(hn:π.Nodup)(tm:Array Value)(i:Nat)(o:Oper):Region.wanted (q87 π X i o) (yielded (remap π X ops) tm)=Region.wanted o (yielded ops tm):=by
 unfold Region.wanted;have e:(q87 π X i o).guard=o.guard.map λg=>(π.idxOf g.1,g.2):=rfl;rw[e];cases o.guard with
 |none=>rfl
 |some g=>
  obtain⟨j,b⟩:=g;show(yielded (remap π X ops) tm (π.idxOf j)==some b)=_;rw[yielded_remap hv hall hn]
theorem wpOps_remap{F:Fence}{n:Nat}{π:List Nat}{X:List (Nat×Nat)}{ops:Array Oper}{Q:Exit->Act->World->Prop}(hv:∀i∈π,i<ops.size)(hall:∀i,i<ops.size->i∈π)(hn:π.Nodup):∀(L:List Nat),(∀i∈L,i∈π)->∀(a:Act)(w:World),wpOpsIn F n P (remap π X ops) Q (L.map λi=>π.idxOf i) a w->wpOpsIn F n P ops Q L a w
 | [],_,a,w,h=>h
 |i::L,hL,a,w,h=>by
  have hi:=hL i (List.mem_cons_self ..);have hlt:=hv i hi;have ho:ops[i]?=some ops[i]:=getElem?_pos ops i hlt;have hget:=remap_get (X:=X) hv hn hi;rw[ho]at hget;simp only[Option.map_some]at hget;have ih:=wpOps_remap (F:=F) (n:=n) (X:=X) (Q:=Q) hv hall hn L λi h=>hL i (List.mem_cons_of_mem _ h);simp only[List.map_cons,wpOpsIn,hget]at h;simp only[wpOpsIn,ho];have hw:=wanted_remap (X:=X) hv hall hn a.tmps i ops[i];rw[hw]at h;by_cases hq:Region.wanted ops[i] (yielded ops a.tmps)=true
  .rw[if_pos hq]at h;rw[if_pos hq];have h:ops[i].wpIn F n P a w (wpOpsIn F n P (remap π X ops) Q (L.map λi=>π.idxOf i)) Q:=h;exact wp_mono' ih h
  .rw[if_neg hq]at h;rw[if_neg hq];exact⟨h.1,ih _ _ h.2⟩
theorem lin_remap{π:List Nat}{X:List (Nat×Nat)}{ops:Array Oper}{L0:List Nat}(hv:∀i∈π,i<ops.size)(hall:∀i,i<ops.size->i∈π)(hn:π.Nodup)(hX:InLine X L0):∀(L pre:List Nat),L0=pre++L->(∀i∈pre,i∈π)->Lin ops.toList (λj=>j∈pre) L->Lin (remap π X ops).toList (λq=>q∈pre.map λi=>π.idxOf i) (L.map λi=>π.idxOf i)
 | [],pre,_,hp,hl=>by
  cases hl with
  |nil h=>
   refine .nil λq hq=>?_;rw[remap_len hv]at hq;obtain⟨i,hi,e⟩:=pos_surj hn q hq;exact List.mem_map.2 ⟨i,h i (by simpa using hv i hi),e⟩
 |i::L,pre,h0,hp,hl=>by
  cases hl with
  |cons ho hne he hrest=>
   rename_i o;have ho':ops[i]?=some o:=by simpa using ho
   have hlt:i<ops.size:=(Array.getElem?_eq_some_iff.1 ho').1;have hi:=hall i hlt;have hget:=remap_get (X:=X) hv hn hi;rw[ho']at hget;refine .cons (o:=q87 π X i o) (by simpa using hget) (λhm=>?_) (λe hm=>?_) ?_
   .obtain⟨k,hk,e⟩:=List.mem_map.1 hm;have:=pos_inj (hp k hk) hi e;exact hne (this▸hk)
   .rw[edges_remap]at hm;rcases List.mem_append.1 hm with hm|hm
    .obtain⟨k,hk,rfl⟩:=List.mem_map.1 hm;exact List.mem_map.2 ⟨k,he k hk,rfl⟩
    .obtain⟨x,hx,rfl⟩:=List.mem_map.1 hm;obtain⟨hx1,hx2⟩:=List.mem_filter.1 hx;have hx2:x.2=i:=q02 hx2;have hlt2:=hX x hx1;rw[h0,hx2,List.idxOf_append,List.idxOf_append,if_neg hne,List.idxOf_cons_self]at hlt2;by_cases hin:x.1∈pre
     .exact List.mem_map.2 ⟨x.1,hin,rfl⟩
     .rw[if_neg hin]at hlt2;omega
   .have h1:Lin ops.toList (λj=>j∈pre++[i]) L:=hrest.congr λj=>by simp
    have h2:=lin_remap hv hall hn hX L (pre++[i]) (by rw[h0];simp) (λk hk=>by
     rcases List.mem_append.1 hk with h|h
     .exact hp k h
     .rw[List.mem_singleton.1 h];exact hi) h1
    exact h2.congr λq=>by simp[List.map_append]
theorem lin_has{ops:List Oper}:∀{L:List Nat}{E:Nat->Prop},Lin ops E L->∀i,i<ops.length->¬E i->i∈L
 | [],E,hl,i,hi,hn=>by
  cases hl with
  |nil h=>exact absurd (h i hi) hn
 |j::L,E,hl,i,hi,hn=>by
  cases hl with
  |cons ho hne he hrest=>
   by_cases h:i=j
   .rw[h];exact List.mem_cons_self ..
   .exact List.mem_cons_of_mem _ (lin_has hrest i hi (by rintro(k|k);exact hn k;exact h k))
theorem lin_lt{ops:List Oper}:∀{L:List Nat}{E:Nat->Prop},Lin ops E L->∀i∈L,i<ops.length
 | [],E,hl,i,hi=>by cases hi
 |j::L,E,hl,i,hi=>by
  cases hl with
  |cons ho hne he hrest=>
   rcases List.mem_cons.1 hi with h|h
   .rw[h];exact(List.getElem?_eq_some_iff.1 ho).1
   .exact lin_lt hrest i h
def fails(P:Program)(Q:Nat->Bool)(fr:Op->Bool)(ops:Array Oper):List (Nat×Nat):=
 ops.toList.zipIdx.flatMap λy=>(ops.toList.zipIdx.take y.2).filterMap λx=>bif !needs P Q false fr ops.toList x.1 y.1||((befs ops.toList []).getD y.2 0).testBit x.2 then none else some (x.2,y.2)
def firstFail(P:Program)(Q:Nat->Bool)(fr:Op->Bool)(ops:Array Oper):Option (Nat×Nat):=(fails P Q fr ops).head?
def frSB(fs:Bool)(P:Program)(Q:Nat->Bool)(ops:Array Oper):Bool:=(fs||Nat.blt 14 (fails P Q (λ_=>false) ops).length)&&(!rwSelf ops.toList&&noNil ops.toList)
def frS(fs:Bool)(P:Program)(Q:Nat->Bool)(ops:Array Oper):Op->Bool:=bif frSB fs P Q ops thenλ_=>true elseλ_=>false
def swapOrd(ops:Array Oper)(i j:Nat):List Nat:=
 let m:=(befs ops.toList []).getD j 0
 let mid:=(List.range (j-i-1)).map λk=>i+1+k
 List.range i++mid.filter (λk=>m.testBit k)++[j,i]++mid.filter (λk=>!m.testBit k)++(List.range (ops.size-(j+1))).map λk=>j+1+k
def permB(π:List Nat)(n:Nat):Bool:=(π.all λi=>Nat.blt i n)&&((List.range n).all λi=>π.any (Nat.beq i))&&decide π.Nodup
def qap{α:Type}(P:Program)(Q:Nat->Bool)(fr:Op->Bool)(leaf:Array Oper->Tr α):Nat->Array Oper->Tr α
 |0,_=>.bad 550
 |n+1,ops=>match firstFail P Q fr ops with
  |none=>bif backOk ops.toList&&pairsOk P Q false fr ops.toList (befs ops.toList [])then leaf ops else .bad 551
  |some (i,j)=>bif (permB (List.range ops.size) ops.size&&permB (swapOrd ops i j) ops.size)&&(Nat.blt i j&&Nat.blt j ops.size)then
   .all λcs=>.br cs.isEmpty (qap P Q fr leaf n (remap (List.range ops.size) [(i,j)] ops)) (qap P Q fr leaf n (remap (swapOrd ops i j) [(j,i)] ops))else .bad 552
theorem perm_ok{π:List Nat}{n:Nat}(h:permB π n=true):(∀i∈π,i<n)/\(∀i,i<n->i∈π)/\π.Nodup:=by
 simp only[permB,Bool.and_eq_true,List.all_eq_true,decide_eq_true_eq]at h
 exact⟨λi hi=>by simpa [Nat.blt_eq]using h.1.1 i hi,λi hi=>by
  obtain⟨x,hx,e⟩:=List.any_eq_true.1 (h.1.2 i (List.mem_range.2 hi));rw[q02 e];exact hx,h.2⟩
theorem split_ok{α:Type}{Q:Nat->Bool}{fr:Op->Bool}{leaf:Array Oper->Tr α}{K:α->Prop}{F:Fence}{m:Nat}{Qx:Exit->Act->World->Prop}{a:Act}{w:World}
  (hleaf:∀ops',backOk ops'.toList=true->pairsOk P Q false fr ops'.toList (befs ops'.toList [])=true->(leaf ops').Holds K->∀L,Lin ops'.toList (λ_=>False) L->wpOpsIn F m P ops' Qx L a w) :
  ∀(n:Nat)(ops:Array Oper),(qap P Q fr leaf n ops).Holds K->∀L,Lin ops.toList (λ_=>False) L->wpOpsIn F m P ops Qx L a w
 |0,_,h,_,_=>h.elim
 |n+1,ops,h,L,hL=>by
  unfold qap at h;split at h
  .obtain⟨hc,h⟩:=q08 h;rw[Bool.and_eq_true]at hc;exact hleaf ops hc.1 hc.2 h L hL
  .rename_i i j hf;obtain⟨hc,h⟩:=q08 h;simp only[Bool.and_eq_true]at hc;obtain⟨⟨hp1,hp2⟩,hij,hj⟩:=hc;have hij:i<j:=by simpa [Nat.blt_eq]using hij
   have hj:j<ops.size:=by simpa [Nat.blt_eq]using hj
   have go:∀(π:List Nat)(X:List (Nat×Nat)),permB π ops.size=true->InLine X L->(qap P Q fr leaf n (remap π X ops)).Holds K->wpOpsIn F m P ops Qx L a w:=by
    intro π X hp hX hK;obtain⟨p1,p2,p3⟩:=perm_ok hp;have hl:Lin (remap π X ops).toList (λ_=>False) (L.map λi=>π.idxOf i):=(lin_remap p1 p2 p3 hX L [] rfl (λi h=>by cases h) (hL.congr λi=>by simp)).congr λq=>by simp
    exact wpOps_remap p1 p2 p3 L (λi hi=>p2 i (by simpa using lin_lt hL i hi)) a w (split_ok hleaf n _ hK _ hl)
   have hiL:i∈L:=lin_has hL i (by simp;omega) (λh=>h);have hjL:j∈L:=lin_has hL j (by simpa using hj) (λh=>h);rcases Nat.lt_trichotomy (L.idxOf i) (L.idxOf j)with hlt|heq|hgt
   .refine go _ _ hp1 (λx hx=>?_) ((h []).1 rfl);rw[List.mem_singleton.1 hx];exact hlt
   .exact absurd (pos_inj hiL hjL heq) (by omega)
   .refine go _ _ hp2 (λx hx=>?_) ((h [0]).2 rfl);rw[List.mem_singleton.1 hx];exact hgt
theorem q8i{α:Type}{Q:Nat->Bool}{fr:Op->Bool}{leaf:Array Oper->Tr α}{p:α->Prop}(h:∀ops,(leaf ops).Each p):∀(n:Nat)(ops:Array Oper),(qap P Q fr leaf n ops).Each p
 |0,_=>trivial
 |n+1,ops=>by
  unfold qap;split
  .exact q0x (h ops) trivial
  .exact q0x (λcs=>⟨q8i h n _,q8i h n _⟩) trivial
theorem back_lt{ops:Array Oper}(hback:backOk ops.toList=true):∀(i:Nat)(o:Oper),ops[i]?=some o->∀e∈q2c o,e<i:=by
 intro i o ho e he;have:=q7o hback (i:=i) (x:=o) (by simpa using ho);simp only[List.all_eq_true]at this;have:=this e he;simpa [Nat.blt_eq]using this
end
end Go.Sx

namespace Go.Sx
open Go.RowKit
variable[Env]
def ConB(g:Con):Prop:=∀args h,(g args h).Each λy=>y.2.b=h.b
section
variable{P:Program}{run yld:Nat->Con}{h:SH}
theorem eq_b{t:Tr (SV×SH)}(ht:t.Each λy=>y.2=h):t.Each λy=>y.2.b=h.b:=by
 induction t with
 |ret x=>exact congrArg SH.b ht
 |br c a b iha ihb=>exact⟨iha ht.1,ihb ht.2⟩
 |ask q a ih=>exact ih ht
 |giv q a ih=>exact ih ht
 |all k ih=>exactλn=>ih n (ht n)
 |bad _=>trivial
theorem q0i{α:Type}{p:α->Prop}{c:Bool}{a b:Tr α}(ha:a.Each p)(hb:b.Each p):(bif c then a else b).Each p:=by cases c<;>assumption
theorem each_copyb{t:TypeId}{d s:SV}:(copyS P h t d s).Each λy=>y.2.b=h.b:=by
 unfold copyS
 repeat' split
 all_goals first|trivial|exact rfl|(refine q0i ?_ trivial;first|exact rfl|exact SH.setCs_b _ _ _ _)
theorem each_appendb{t t':TypeId}{d s:SV}:(appendS P h t t' d s).Each λy=>y.2.b=h.b:=by
 unfold appendS;split
 .split
  .split
   .refine q0i ?_ trivial;split
    .exact rfl
    .trivial
   .trivial
  .trivial
 .trivial
theorem each_clearb{t:TypeId}{a:SV}:(clearS P h t a).Each λy=>y.2.b=h.b:=by
 unfold clearS
 repeat' split
 all_goals first|trivial|exact q0i rfl trivial
theorem each_rangeb{t:TypeId}{a:SV}:(rangeM P h t a).Each λy=>y.2.b=h.b:=by
 unfold rangeM
 repeat' split
 all_goals first|trivial|exact rfl|exact q0i rfl trivial|(unfold rangeS;split<;>first|exact rfl|trivial)
theorem each_nextb{a:SV}{str:Bool}:(nextM h a str).Each λy=>y.2.b=h.b:=by
 unfold nextM;split
 .unfold nextS
  repeat' split
  all_goals first|trivial|exact⟨rfl,rfl⟩
 .split
  .split
   .exact⟨rfl,λn=>q0i rfl trivial⟩
   .split
    .exact⟨rfl,λn=>q0i rfl trivial⟩
    .trivial
   .trivial
  .trivial
theorem each_itentb{a:SV}:(entryM h a).Each λy=>y.2.b=h.b:=by
 unfold entryM
 repeat' split
 all_goals first|trivial|exact q0i rfl trivial
theorem each_makeb{t:TypeId}{r:Option SV}:(q9i P h t r).Each λy=>y.2.b=h.b:=by
 unfold q9i
 repeat' split
 all_goals first|trivial|exact rfl
theorem each_lookb{t:TypeId}{a k:SV}{ok:Bool}:(lookS P h t a k ok).Each λy=>y.2.b=h.b:=eq_b each_lookS
theorem each_updb{t:TypeId}{a k v:SV}:(qa5 P h t a k v).Each λy=>y.2.b=h.b:=by
 unfold qa5
 repeat' split
 all_goals first|trivial|exact q0i rfl trivial
theorem each_entryb{t:TypeId}{a k:SV}:(entryS P h t a k).Each λy=>y.2.b=h.b:=by
 unfold entryS
 repeat' split
 all_goals first|trivial|exact q0i rfl trivial
theorem each_storeb{t:TypeId}{a k v:SV}:(storeS' P h t a k v).Each λy=>y.2.b=h.b:=by
 unfold storeS'
 repeat' split
 all_goals first|trivial|exact q0i rfl trivial
theorem each_deleteb{t:TypeId}{a k:SV}:(deleteS P h t a k).Each λy=>y.2.b=h.b:=by
 unfold deleteS
 repeat' split
 all_goals first|trivial|exact q0i rfl trivial
theorem q4p{t t':TypeId}{d s:SV}:(q7n P h t t' d s).Each λy=>y.2.b=h.b:=by
 unfold q7n;split
 .repeat' split
  all_goals first|trivial|exact q0i rfl trivial
 .exact each_appendb
theorem each_mono{α:Type}{p q:α->Prop}(hpq:∀x,p x->q x){t:Tr α}(h:t.Each p):t.Each q:=by
 induction t with
 |ret x=>exact hpq _ h
 |br c a b iha ihb=>exact⟨iha h.1,ihb h.2⟩
 |ask q a ih=>exact ih h
 |giv q a ih=>exact ih h
 |all k ih=>exactλn=>ih n (h n)
 |bad _=>trivial
theorem q4h{α:Type}{P:α->Prop}:∀{l:List Prop}{t:Tr α},t.Each P->(asks l t).Each P
 | [],_,h=>h
 |_::r,t,h=>q4h (l:=r) h
theorem each_appendYb{t t':TypeId}{d s:SV}:(appendY P h t t' d s).Each λy=>y.2.b=h.b:=by
 unfold appendY;split
 .split
  .rw[Bool.cond_eq_ite];split
   .refine q4h ?_;split
    .exact each_mono (λy hy=>hy.trans (frzA_b _ h).1) q4p
    .trivial
   .exact q4p
  .exact q4p
 .exact q4p
theorem each_builtinb{b:Builtin}{ts:List TypeId}{as:List SV}:(q84 P h b ts as).Each λy=>y.2.b=h.b:=by
 unfold q84
 repeat' split
 all_goals first|trivial|exact each_copyb|exact each_appendYb|exact each_clearb|exact each_deleteb|(refine Tr.each_bind (λ_=>?_) _;exact rfl)
theorem each_opb(hr:∀f,ConB (run f))(hy:∀l,ConB (yld l)){ev:Operand->SV}{o:Op}:(opS P run yld ev h o).Each λy=>y.2.b=h.b:=by
 unfold opS;split
 .exact rfl
 .exact rfl
 .repeat' split
  all_goals first|trivial|exact rfl|exact⟨rfl,rfl⟩
 .unfold allocS;split<;>first|exact rfl|trivial
 .exact q0i rfl trivial
 .unfold buildS;repeat' split
  all_goals first|trivial|exact rfl
 .unfold q6j;repeat' split
  all_goals first|trivial|exact rfl|(refine q0i ?_ trivial;first|exact rfl|trivial)
 .exact eq_b each_load
 .unfold storeS;repeat' split
  all_goals first|trivial|(refine q0i ?_ trivial;first|exact rfl|exact SH.setCs_b _ _ _ _)
 .repeat' split
  all_goals first|trivial|exact rfl|(refine Tr.each_bind (λ_=>?_) _;exact rfl)
 ·(refine Tr.each_bind (λ_=>?_) _;exact rfl)
 .unfold convH;repeat' split
  all_goals first|trivial|exact rfl|exact q0i rfl trivial|exact q0i (q8u rfl) trivial|(refine Tr.each_bind (λ_=>?_) _;exact rfl)
 .exact q0i rfl trivial
 .exact eq_b each_slice
 .unfold slice3S;repeat' split
  all_goals first|trivial|exact rfl|exact q0i rfl trivial
 .exact q0i rfl trivial
 .unfold q7u;repeat' split
  all_goals first|trivial|exact rfl|exact q0i rfl trivial
 .exact each_rangeb
 .exact each_nextb
 .exact each_itentb
 .exact each_makeb
 .exact each_lookb
 .exact each_updb
 .exact each_updb
 .exact each_entryb
 .exact each_storeb
 .exact eq_b q8f
 .exact eq_b each_field
 .exact eq_b q8e
 .exact eq_b each_index
 .exact eq_b qbe
 .split
  .exact each_builtinb
  .split
   .exact q0i (hr _ _ _) trivial
   .exact hy _ _ _
   .trivial
  .trivial
 .trivial
theorem put_on{σ:St}{d:Option Nat}{s:SV}{h':SH}(hb:h'.b=σ.h.b):(σ.put d s h').On σ.b σ.h.b:=by cases d<;>exact⟨rfl,hb⟩
theorem guardM_on{ops:Array Oper}{σ:St}{o:Oper}{go:Bool->St->Tr St}(hgo:∀g σ' B HB,σ'.On B HB->(go g σ').Each (St.On B HB)):(guardM ops σ o go).Each (St.On σ.b σ.h.b):=by
 unfold guardM;split
 .exact hgo _ _ _ _ ⟨rfl,rfl⟩
 .split
  .refine q0i ?_ trivial;split
   .exact hgo _ _ _ _ ⟨rfl,rfl⟩
   .exact Tr.each_map (q:=St.On (σ.t++σ.b) (σ.h.l++σ.h.b)) (λx _=>pop_on σ x) (mergeX_each (q5v _ _ _ _) (hgo _ _ _ _ ⟨rfl,rfl⟩) (hgo _ _ _ _ ⟨rfl,rfl⟩))
   .exact hgo _ _ _ _ ⟨rfl,rfl⟩
   .trivial
  .exact hgo _ _ _ _ ⟨rfl,rfl⟩
theorem q5p(hr:∀f,ConB (run f))(hy:∀l,ConB (yld l)){ops:Array Oper}:∀(l:List Oper)(σ:St)(B:List (Nat×SV))(HB:List (Nat×SE)),σ.On B HB->(q9f P run yld ops l σ).Each (St.On B HB)
 | [],σ,B,HB,h=>h
 |o::r,σ,B,HB,h=>by
  obtain⟨rfl,rfl⟩:=h;refine guardM_on λg σ' B HB hon=>?_;cases g with
  |true=>
   refine Tr.each_bind' (p:=λy=>y.2.b=σ'.h.b) (λx hx=>?_) (each_opb hr hy);refine q5p hr hy r _ B HB ?_;have:=put_on (d:=o.dst) (s:=x.1) hx
   rwa [hon.1,hon.2]at this
  |false=>
   refine q5p hr hy r _ B HB ?_;have:=put_on (σ:=σ') (d:=o.dst) (s:=.k undef) (h':=σ'.h) rfl
   rwa [hon.1,hon.2]at this
theorem strip_each{α:Type}{p:α->Prop}{t:Tr α}(h:t.Each p):t.strip.Each p:=by
 induction t with
 |ret x=>exact h
 |br c a b iha ihb=>exact⟨iha h.1,ihb h.2⟩
 |ask q a ih=>exact ih h
 |giv q a ih=>trivial
 |all k ih=>trivial
 |bad _=>trivial
theorem guardS_on{ops:Array Oper}{σ:St}{o:Oper}{go:Bool->St->Tr St}{p:St->Prop}(hgo:∀g σ',σ'.On σ.b σ.h.b->(go g σ').Each p):(guardS ops σ o go).Each p:=by
 unfold guardS;split
 .exact hgo _ _ ⟨rfl,rfl⟩
 .split
  .refine q0i ?_ trivial;split
   .exact hgo _ _ ⟨rfl,rfl⟩
   .exact⟨hgo _ _ ⟨rfl,rfl⟩,hgo _ _ ⟨rfl,rfl⟩⟩
   .exact hgo _ _ ⟨rfl,rfl⟩
   .trivial
  .exact hgo _ _ ⟨rfl,rfl⟩
theorem q83{Q:Nat->Bool}{tq:Bool}{fr:Op->Bool}(hr:∀f,ConB (run f))(hy:∀l,ConB (yld l)){ops:Array Oper}:∀(l:List Oper)(σ:St)(B:List (Nat×SV))(HB:List (Nat×SE)),σ.On B HB->(q56 P Q tq fr run yld ops l σ).Each (St.On B HB)
 | [],σ,B,HB,h=>h
 |o::r,σ,B,HB,h=>by
  obtain⟨rfl,rfl⟩:=h;refine guardS_on λg σ' hon=>?_;cases g with
  |true=>
   refine q0i ?_ trivial;refine Tr.each_bind' (p:=λy=>y.2.b=σ'.h.b) (λx hx=>?_) (strip_each (each_opb hr hy));refine q83 hr hy r _ _ _ ?_;have:=put_on (d:=o.dst) (s:=x.1) hx
   rwa [hon.1,hon.2]at this
  |false=>
   refine q83 hr hy r _ _ _ ?_;have:=put_on (σ:=σ') (d:=o.dst) (s:=.k undef) (h':=σ'.h) rfl
   rwa [hon.1,hon.2]at this
end
end Go.Sx

namespace Go.Sx
open Go.RowKit
variable[Env]
def frzO(σ:St)(t:Nat):St:=
 match σ.slot t with
 | .p i o=>match σ.h.get i with
  | .cells xs _=>bif Nat.blt t σ.n then⟨σ.n,(t,.pr (xs.drop o))::σ.t,σ.h.set i .dead,σ.d,σ.b⟩else σ
  |_=>σ
 |_=>σ
def frzL:List Nat->St->St
 | [],σ=>σ
 |t::l,σ=>frzL l (frzO σ t)
def rdSlot:Oper->List Nat:=λo=>match o.op with
 | .load _ (.tmp t)=>[t]
 | .fieldAddr _ (.tmp t) _=>[t]
 | .indexAddr _ (.tmp t) _=>[t]
 |_=>[]
def rdSlots(ops:List Oper):List Nat:=(ops.flatMap rdSlot).filter λt=>!(ops.any λo=>match o.dst with
 |some d=>Nat.beq d t
 |none=>false)
def frzS(fr:Bool)(ops:List Oper)(σ:St):St:=bif fr then frzL (rdSlots ops) σ else σ
section
variable{M:Nat->Prop}{w0 w:World}{ρ:Rh}
theorem frzO_ok{σ:St}{a:Act}(t:Nat)(hm:Mod M w0 ρ σ a w):∃ρ',ρ'.lc=ρ.lc/\Agree σ.h.nx ρ ρ'/\Mod M w0 ρ' (frzO σ t) a w/\(frzO σ t).h.nx=σ.h.nx/\(frzO σ t).b=σ.b/\(frzO σ t).h.b=σ.h.b:=by
 have same:frzO σ t=σ->∃ρ',ρ'.lc=ρ.lc/\Agree σ.h.nx ρ ρ'/\Mod M w0 ρ' (frzO σ t) a w/\(frzO σ t).h.nx=σ.h.nx/\(frzO σ t).b=σ.b/\(frzO σ t).h.b=σ.h.b:=λe=>by
  rw[e];exact⟨ρ,rfl,Agree.refl _ _,hm,rfl,rfl,rfl⟩
 cases hs:σ.slot t with
 |p i o=>
  cases hg:σ.h.get i with
  |cells xs ty=>
   cases hb:Nat.blt t σ.n with
   |false=>exact same (by simp only[frzO,hs,hg,hb,cond_false])
   |true=>
    have e:frzO σ t=⟨σ.n,(t,.pr (xs.drop o))::σ.t,σ.h.set i .dead,σ.d,σ.b⟩:=by simp only[frzO,hs,hg,hb,cond_true]
    rw[e];have htn:t<σ.n:=Nat.le_of_ble_eq_true hb;have hown:(σ.h.get i).own (ρ i):=by rw[hg];trivial
    have hob:=hm.hp.ob i;rw[hg]at hob;obtain⟨hnl,hoff,l,ho,hfl⟩:=hob;have hfz:=hm.hp.freeze hown ho;have hag:Agree σ.h.nx ρ (ρ.frz (ρ i).blk (.cells (List.toArray l) ty (0,0))):=q61 ρ (hm.hp.sep i hown);refine⟨ρ.frz (ρ i).blk (.cells (List.toArray l) ty (0,0)),rfl,hag,⟨⟨hm.tm.1,λk hk=>?_⟩,hm.df.mono hag hm.dl,hm.dl,hfz⟩,rfl,rfl,rfl⟩;have hk':=(hm.tm.mono (Nat.le_refl _) hag).2 k hk;rw[St.look_lg]at hk' ⊢;show(look (look (.k undef) k σ.b) k ((t,SV.pr (xs.drop o))::σ.t)).fit _ _ _;rw[q1i];by_cases hkt:k=t
    .rw[if_pos hkt];subst hkt;have h0:=hm.tm.2 k hk;rw[St.look_lg,hs]at h0;obtain⟨_,hx⟩:=h0;rw[hx];refine⟨(ρ i).blk,(ρ i).off+o,List.toArray l,ty,(0,0),rfl,by simp[Rh.frz],l.drop o,SV.fits_mono (Nat.le_refl _) hag _ _ (q0f o hfl),λj v hv=>?_⟩;rw[List.getElem?_drop]at hv;rw[hoff,Nat.zero_add];simpa using hv
    .rw[if_neg hkt];exact hk'
  |_=>exact same (by simp only[frzO,hs,hg])
 |_=>exact same (by simp only[frzO,hs])
theorem frzL_ok:∀(l:List Nat){ρ:Rh}{σ:St}{a:Act},Mod M w0 ρ σ a w->∃ρ',ρ'.lc=ρ.lc/\Agree σ.h.nx ρ ρ'/\Mod M w0 ρ' (frzL l σ) a w/\(frzL l σ).h.nx=σ.h.nx/\(frzL l σ).b=σ.b/\(frzL l σ).h.b=σ.h.b
 | [],ρ,σ,a,hm=>⟨ρ,rfl,Agree.refl _ _,hm,rfl,rfl,rfl⟩
 |t::l,ρ,σ,a,hm=>by
  obtain⟨ρ1,e1,a1,m1,n1,b1,c1⟩:=frzO_ok t hm;obtain⟨ρ2,e2,a2,m2,n2,b2,c2⟩:=frzL_ok l m1;refine⟨ρ2,e2.trans e1,a1.trans (by rw[n1];exact Nat.le_refl _) a2,m2,n2.trans n1,b2.trans b1,c2.trans c1⟩
theorem frzS_ok(fr:Bool)(ops:List Oper){σ:St}{a:Act}(hm:Mod M w0 ρ σ a w):∃ρ',ρ'.lc=ρ.lc/\Agree σ.h.nx ρ ρ'/\Mod M w0 ρ' (frzS fr ops σ) a w/\(frzS fr ops σ).h.nx=σ.h.nx/\(frzS fr ops σ).b=σ.b/\(frzS fr ops σ).h.b=σ.h.b:=by
 unfold frzS;cases fr with
 |true=>exact frzL_ok _ hm
 |false=>exact⟨ρ,rfl,Agree.refl _ _,hm,rfl,rfl,rfl⟩
theorem frzO_on(t:Nat)(σ:St):(frzO σ t).b=σ.b/\(frzO σ t).h.b=σ.h.b:=by
 unfold frzO;split
 .split
  .cases Nat.blt t σ.n<;>exact⟨rfl,rfl⟩
  .exact⟨rfl,rfl⟩
 .exact⟨rfl,rfl⟩
theorem frzL_on:∀(l:List Nat)(σ:St),(frzL l σ).b=σ.b/\(frzL l σ).h.b=σ.h.b
 | [],_=>⟨rfl,rfl⟩
 |t::l,σ=>⟨(frzL_on l _).1.trans (frzO_on t σ).1,(frzL_on l _).2.trans (frzO_on t σ).2⟩
theorem frzS_on(fr:Bool)(ops:List Oper)(σ:St):(frzS fr ops σ).b=σ.b/\(frzS fr ops σ).h.b=σ.h.b:=by
 unfold frzS;cases fr with
 |true=>exact frzL_on _ _
 |false=>exact⟨rfl,rfl⟩
end
end Go.Sx

namespace Go.Sx
open Go.RowKit
variable[Env]
def argLog:Nat->List SV->List (Nat×SV)
 |_,[]=>[]
 |i,a::r=>(i,a)::argLog (i+1) r
def q45:List Nat->SH->Option SH
 | [],h=>some h
 |i::r,h=>match h.get i with
  | .obj (.deferred (some []))=>q45 r (h.set i (.obj (.deferred none)))
  |_=>none
def resOne(P:Program)(σ:St):ResultVar->Tr SV
 | .tmp t=>.ret (σ.ev (.tmp t))
 | .cell a t=>(loadS P σ.h t (σ.ev (.tmp a))).bind λx=>.ret x.1
def resAll(P:Program)(σ:St):List ResultVar->Tr (List SV)
 | []=>.ret []
 |r::rs=>(resOne P σ r).bind λs=>(resAll P σ rs).bind λss=>.ret (s::ss)
def resS(P:Program)(fn:Func)(σ:St):Tr (SV×SH):=
 (resAll P σ fn.results.toList).bind λss=>match ss with
  | [s]=>.ret (s,σ.h)
  |ss=>.ret (.tup ss,σ.h)
def q0s:Code->List Code
 | .seq a b=>q0s a++q0s b
 | .cond _ a b=>q0s a++q0s b
 | .block _ c=>q0s c
 | .scope c=>q0s c
 | .loop c=>c::q0s c
 |_=>[]
def q5c:Code->Option Nat
 | .region id _ _=>some id
 | .seq a b=>match q5c a with
  |some i=>some i
  |none=>q5c b
 | .cond _ a b=>match q5c a with
  |some i=>some i
  |none=>q5c b
 | .block _ c=>q5c c
 | .scope c=>q5c c
 | .loop c=>(q5c c).map λi=>i+1000
 |_=>none
def lkey(c:Code):Nat:=(q5c c).getD 1000000
def q00(P:Program)(f:Nat):List Code:=
 match P.funcs[f]? with
 |some fn=>match fn.body with
  |some c=>q0s c
  |none=>[]
 |none=>[]
def loopBody(P:Program)(f key:Nat):Code:=((q00 P f).find? λc=>Nat.beq (lkey c) key).getD .skip
structure LCon where
 g:St->Tr (Ex×St)
 on:∀σ,(g σ).Each λy=>y.2.On σ.b σ.h.b
abbrev Lam:=Nat->Nat->Option LCon
structure Gam where
 g:Nat->Option Con
 q:Nat->Bool
 hq:∀f,q f=true->∃c,g f=some c/\(∀args h,(c args h).Each λy=>y.2=h)/\∀args,args.all noId=true->Indep λh=>c args h
 hb:∀f c,g f=some c->ConB c
 z:Nat->Nat->Bool
 u:Nat->Nat->Nat
def Gam.zf(Γ:Gam)(lam:Option Nat)(id:Nat):Bool:=
 match lam with
 |some f=>Γ.z f id
 |none=>false
def Gam.un(Γ:Gam)(lam:Option Nat)(key n:Nat):Nat:=
 match lam with
 |some f=>match Γ.u f key with
  |0=>n
  |m+1=>m+1
 |none=>n
def Gam.nj(Γ:Gam):Bool:=Γ.z 4000000 0
def Gam.fs(Γ:Gam):Bool:=Γ.z 5000000 0
def fnRun(P:Program)(ex:Code->St->Tr (Ex×St))(f:Nat):Con:=λargs h=>
 match P.funcs[f]? with
 |some fn=>
  match fn.body with
  |some c=>
   bif Nat.ble args.length fn.ntmps then
    (ex c ⟨fn.ntmps,argLog 0 args,h,[],[]⟩).bind λx=>
     match x.1 with
     | .ret| .normal=>match q45 x.2.d x.2.h with
      |some h'=>resS P fn ⟨x.2.n,x.2.t,h',[],x.2.b⟩
      |none=>.bad 510
     |_=>.bad 511
   else .bad 512
  |none=>.bad 513
 |none=>.bad 514
def q63:List Nat->List SV->List (Nat×SV)->List (Nat×SV)
 |p::ps,a::as,t=>q63 ps as ((p,a)::t)
 |_,_,t=>t
def q6w(ex:Nat->Code->St->Tr (Ex×St))(l:Nat):Con:=λargs h=>
 match h.get l with
 | .loop .ready _ n t ps asg body _=>
  bif Nat.beq args.length ps.size then
   (ex l asg ⟨n,q63 ps.toList args t,h,[],[]⟩).bind λx=>
    match x.1 with
    | .normal=>match x.2.h.get l with
     | .loop .ready pd' _ _ _ _ _ _=>
      (ex l body ⟨x.2.n,x.2.t,x.2.h.setLp l .busy pd',x.2.d,x.2.b⟩).bind λy=>
       match y.2.h.get l with
       | .loop ..=>
        match y.1 with
        | .normal=>.ret (.k (.bool true),y.2.h.setLp l .ready none)
        | .ret=>.ret (.k (.bool false),y.2.h.setLp l .done (some .ret))
        | .exit id=>.ret (.k (.bool false),y.2.h.setLp l .done (some (.exit id)))
        | .goto id=>.ret (.k (.bool false),y.2.h.setLp l .done (some (.goto id)))
       |_=>.bad 520
     |_=>.bad 521
    |_=>.bad 524
  else .bad 522
 |_=>.bad 523
def q6h(ex:Code->St->Tr (Ex×St))(l:Nat)(σ:St):Tr (Ex×St):=
 match σ.h.get l with
 | .loop st pd n t ps asg body df=>
  match st with
  | .busy=>.bad 530
  |_=>
   let σ':St:=⟨σ.n,σ.t,σ.h.set l (.loop .exhausted pd n t ps asg body df),σ.d,σ.b⟩
   match pd with
   |none=>.ret (.normal,σ')
   |some c=>ex c σ'
 |_=>.bad 531
def qag(ex:St->Tr (Ex×St)):Nat->St->Tr (Ex×St)
 |0,_=>.bad 532
 |m+1,σ=>(ex σ).bind λx=>match x.1 with
  | .normal=>qag ex m x.2
  |e=>.ret (e,x.2)
def q6l(id:Nat)(x:Ex×St):Ex×St:=
 match x.1 with
 | .exit j=>bif Nat.beq j id then(.normal,x.2)else(.exit j,x.2)
 |e=>(e,x.2)
def exec(P:Program)(Γ:Gam)(Λ:Lam):Nat->Option Nat->Option Nat->Code->St->Tr (Ex×St)
 |0,_,_,_,_=>.bad 540
 |n+1,lam,rd,c,σ=>
  let run:Nat->Con:=λf=>match Γ.g f with
   |some g=>g
   |none=>fnRun P (exec P Γ Λ n (some f) none) f
  let yld:Nat->Con:=q6w λl=>exec P Γ Λ n none (some l)
  match c with
  | .skip=>.ret (.normal,σ)
  | .label _=>.ret (.normal,σ)
  | .ret=>.ret (.ret,σ)
  | .exit id=>.ret (.exit id,σ)
  | .goto l=>.ret (.goto l,σ)
  | .region id ops d=>bif Γ.zf lam id then(bif d then .bad 548 else((q7l Γ.nj (λ_=>true) (joinSt true σ.h.nx) (q9f P run yld ops ops.toList σ.base)).map σ.pop).bind λσ=>.ret (.normal,σ))else bif d then(bif q9y P Γ.q (tqOf P Γ.q ops) (frOf P Γ.q ops) ops then((q7l Γ.nj (λ_=>true) (joinSt false (frzS (frB P Γ.q ops) ops.toList σ).h.nx) (q56 P Γ.q (tqOf P Γ.q ops) (frOf P Γ.q ops) run yld ops ops.toList (frzS (frB P Γ.q ops) ops.toList σ).base)).map (frzS (frB P Γ.q ops) ops.toList σ).pop).bind λσ=>.ret (.normal,σ)else(bif P.follows .mixedOrders&&backOk ops.toList then qap P Γ.q (frS Γ.fs P Γ.q ops) (λops'=>((q7l Γ.nj (λ_=>true) (joinSt false (frzS (frSB Γ.fs P Γ.q ops) ops.toList σ).h.nx) (q56 P Γ.q false (frS Γ.fs P Γ.q ops) run yld ops' ops'.toList (frzS (frSB Γ.fs P Γ.q ops) ops.toList σ).base)).map (frzS (frSB Γ.fs P Γ.q ops) ops.toList σ).pop).bind λσ=>.ret (.normal,σ)) 14 ops else .bad 541))else(q9f P run yld ops ops.toList σ).bind λσ=>.ret (.normal,σ)
  | .seq a b=>(exec P Γ Λ n lam rd a σ).bind λx=>match x.1 with
   | .normal=>exec P Γ Λ n lam rd b x.2
   |e=>.ret (e,x.2)
  | .cond c a b=>match(σ.ev c).bool? with
   |some (true,z)=>match z with
    |true=>exec P Γ Λ n lam rd a σ
    |false=>exec P Γ Λ n lam rd b σ
   |some (false,z)=>(mergeY Γ.nj isNx (joinX σ.h.nx) z (exec P Γ Λ n lam rd a σ.base) (exec P Γ Λ n lam rd b σ.base)).map λy=>(y.1,σ.pop y.2)
   |none=>.bad 542
  | .block id c=>(q7l Γ.nj isNx (joinX σ.h.nx) ((exec P Γ Λ n lam rd c σ.base).map (q6l id))).map λy=>(y.1,σ.pop y.2)
  | .loop c=>
   match rd,lam.bind λf=>Λ f (lkey c)with
   |none,some L=>L.g σ
   |_,_=>qag (exec P Γ Λ n lam rd c) (Γ.un lam (lkey c) n) σ
  | .rangeFunc g ps asg body=>
   match σ.ev g with
   | .fn f cs=>
    bif callable P f then
     match rd with
     |none=>
      let h1:=σ.h.push (.obj (.deferred (some [])))
      let h2:=h1.push (.loop .ready none σ.n σ.lg ps asg body σ.h.nx)
      (run f (.yl h1.nx::cs) h2).bind λx=>q6h (exec P Γ Λ n none rd) h1.nx ⟨σ.n,σ.t,x.2,σ.h.nx::σ.d,σ.b⟩
     |some l0=>
      match σ.h.get l0 with
      | .loop _ _ _ _ _ _ _ df=>
       let h2:=σ.h.push (.loop .ready none σ.n σ.lg ps asg body df)
       (run f (.yl σ.h.nx::cs) h2).bind λx=>q6h (exec P Γ Λ n none rd) σ.h.nx ⟨σ.n,σ.t,x.2,σ.d,σ.b⟩
      |_=>.bad 543
    else .bad 544
   |_=>.bad 545
  | .scope c=>(exec P Γ Λ n lam rd c σ).bind λx=>match x.1 with
   | .goto _=>.bad 546
   |e=>.ret (e,x.2)
  | .refuse _=>.bad 547
def fnTree(P:Program)(Γ:Gam)(Λ:Lam)(n:Nat)(f:Nat):Con:=fnRun P (exec P Γ Λ n (some f) none) f
end Go.Sx

namespace Go.Sx
open Go.RowKit
variable[Env]
section
variable{P:Program}{M:Nat->Prop}{w0 w:World}{ρ:Rh}
def PostX(M:Nat->Prop)(w0:World)(ρ:Rh)(nx:Nat)(K:Ex×St->Prop):Exit->Act->World->Prop:=λx a w=>
 ∃e σ' ρ',x=Ex.ex e/\K (e,σ')/\nx<=σ'.h.nx/\Agree nx ρ ρ'/\Mod M w0 ρ' σ' a w
theorem q3t{b:Frame}{a:Act}{k:List Item}{cs:List Frame}{c:Code}:step P (lone (b.atR a (.code (.scope c)::k)) cs w)=.next (lone (b.atR a (.code c:: .inScope c::k)) cs w):=
 step_lone_go (by simp[stepG,stepG.exec,Frame.atR])
theorem stepR_inScope{b:Frame}{a:Act}{k:List Item}{cs:List Frame}{c:Code}:step P (lone (b.atR a (.inScope c::k)) cs w)=.next (lone (b.atR a k) cs w):=
 step_lone_go (by simp[stepG,stepG.exec,Frame.atR])
def noJump(Q:Exit->Act->World->Prop):Exit->Act->World->Prop
 | .goto _,_,_=>False
 |e,a,w=>Q e a w
theorem wpIn_scope{F:Fence}{n:Nat}{c:Code}{Q:Exit->Act->World->Prop}{a:Act}(h:c.wpIn F n P (noJump Q) a w):(Code.scope c).wpIn F n P Q a w:=by
 intro b k cs hro hb hr;have h0:(lone (b.atR a (.code (.scope c)::k)) cs w).fenced P F:=fenced_calm hb hr rfl;obtain⟨e,a₁,w₁,hq,harr⟩:=h b (.inScope c::k) cs hro hb hr;cases e with
 |normal=>exact⟨.normal,a₁,w₁,hq,.head h0 q3t (StepsIn.trans harr (.one (fenced_calm hb hr rfl) stepR_inScope))⟩
 |exit id=>
  have hx:exitTo id (.inScope c::k)=exitTo id k:=by simp[exitTo]
  exact⟨.exit id,a₁,w₁,hq,λk' hk=>.head h0 q3t (harr.1 k' (by rw[hx];exact hk)),
   λhr' hk=>let ⟨k₁,h1,h2⟩:=harr.2 hr' (by rw[hx];exact hk);⟨k₁,h1,.head h0 q3t h2⟩⟩
 |goto l=>exact hq.elim
 |ret=>exact⟨_,a₁,w₁,hq,.of_steps (.one h0 q3t) harr⟩
 |panic ch=>exact⟨_,a₁,w₁,hq,.of_steps (.one h0 q3t) harr⟩
 |outgrown=>exact⟨_,a₁,w₁,hq,.of_steps (.one h0 q3t) harr⟩
theorem know_ok{σ:St}{a:Act}{d:Nat}{b:Bool}(hm:Mod M w0 ρ σ a w)(hs:σ.slot d=.v (.bool b)):Mod M w0 ρ (σ.know d b) a w:=by
 refine⟨⟨hm.tm.1,λi hi=>?_⟩,hm.df,hm.dl,hm.hp⟩;have h:=hm.tm.2 i hi;rw[St.look_lg]at h;rw[show(σ.know d b).lg=(d,SV.k (.bool b))::σ.lg from rfl,q1i,St.look_lg];by_cases hid:i=d
 .subst hid;rw[if_pos rfl];have:σ.slot i=.v (.bool b):=hs;rw[this]at h;exact h
 .rw[if_neg hid];exact h
theorem q60{α:Type}(t:Tr α):t.Each λ_=>True:=by
 induction t with
 |ret x=>trivial
 |br c a b iha ihb=>exact⟨iha,ihb⟩
 |ask q a ih=>exact ih
 |giv q a ih=>exact ih
 |all k ih=>exactλn=>ih n
 |bad _=>trivial
theorem guardM_ok{ops:Array Oper}{σ:St}{o:Oper}{a:Act}{go:Bool->St->Tr St}{K:St->Prop}(hgo:∀g(σ':St)B HB,σ'.On B HB->(go g σ').Each (St.On B HB))(hm:Mod M w0 ρ σ a w)(hK:(guardM ops σ o go).Holds K):
  ∃σ' K',Mod M w0 ρ σ' a w/\σ'.h.nx=σ.h.nx/\(go (Region.wanted o (yielded ops a.tmps)) σ').Holds K'/\
   (∀x w0 w ρ a,K' x->Mod M w0 ρ x a w->∃y,K y/\x.h.nx<=y.h.nx/\Mod M w0 ρ y a w):=by
 have same:∀g,(go g σ).Holds K->∃σ' K',Mod M w0 ρ σ' a w/\σ'.h.nx=σ.h.nx/\(go g σ').Holds K'/\(∀x w0 w ρ a,K' x->Mod M w0 ρ x a w->∃y,K y/\x.h.nx<=y.h.nx/\Mod M w0 ρ y a w):=λg h=>
  ⟨σ,K,hm,rfl,h,λx _ _ _ _ hk hm=>⟨x,hk,Nat.le_refl _,hm⟩⟩
 unfold guardM at hK;unfold Region.wanted;cases hg:o.guard with
 |none=>rw[hg]at hK;exact same _ hK
 |some jw=>
  obtain⟨j,want⟩:=jw;rw[hg]at hK;simp only at hK ⊢;unfold yielded;cases hd:(ops[j]?).bind (·.dst)with
  |none=>rw[hd]at hK;exact same _ (by simpa using hK)
  |some d=>
   rw[hd]at hK;simp only at hK
   obtain⟨hlt,hK1⟩:=(by
    cases hb:Nat.blt d σ.n with
    |true=>rw[hb]at hK;exact⟨by simpa [Nat.blt_eq]using hb,hK⟩
    |false=>rw[hb]at hK;exact hK.elim:d<σ.n/\_)
   simp only[cond_true]at hK1;have hsz:=hm.tm.1
   have hget:a.tmps[d]?=some (a.tmps.getD d undef):=by
    rw[Array.getD_eq_getD_getElem?,getElem?_pos a.tmps d (hsz▸hlt)];rfl
   have hfit:=hm.tm.2 d hlt;rw[St.look_lg]at hfit;simp only[Option.bind_some,hget];cases hs:σ.slot d with
   |k x=>
    have hx:a.tmps.getD d undef=x:=by
     rw[hs]at hfit;exact hfit
    rw[hs]at hK1;rw[hx];cases x with
    |bool b=>exact same _ (by simpa using hK1)
    |tuple _=>exact same _ (by simpa using hK1)
    |_=>exact hK1.elim
   |v x=>
    have hx:a.tmps.getD d undef=x:=by
     rw[hs]at hfit;exact hfit
    rw[hs]at hK1;rw[hx];cases x with
    |bool b=>
     have hk2:=Tr.holds_map hK1;have hon:∀g,(go g (σ.base.know d g)).Each (St.On (σ.t++σ.b) (σ.h.l++σ.h.b)):=λg=>hgo _ _ _ _ ⟨rfl,rfl⟩;have hon':∀g v,(go g (σ.base.know d v)).Each (St.On (σ.t++σ.b) (σ.h.l++σ.h.b)):=λg v=>hgo _ _ _ _ ⟨rfl,rfl⟩;obtain⟨h1,h2⟩:=q7b (q5v _ _ _ _) (hon' _ true) (hon' _ false) hk2
     have hbs:σ.base.slot d=.v (.bool b):=by
      have:σ.base.slot d=σ.slot d:=q39 _ _ _ _;rw[this,hs]
     have fin:∀x w0 w ρ a,((∃j,Wk x j/\K (σ.pop j))/\x.On (σ.t++σ.b) (σ.h.l++σ.h.b))->Mod M w0 ρ x a w->∃y,K y/\x.h.nx<=y.h.nx/\Mod M w0 ρ y a w:=by
      rintro x w0 w ρ a ⟨⟨j,hw,hk⟩,hx⟩ hm;refine⟨σ.pop j,hk,hw.nx,(hw.mod _ _ _ _ _ hm).pop ?_⟩;have:=hw.on
      rwa [hx.1,hx.2]at this
     cases b with
     |true=>exact⟨_,_,know_ok hm.base hbs,rfl,Tr.each_holds (hon' _ _) (by simpa using h1 rfl),fin⟩
     |false=>exact⟨_,_,know_ok hm.base hbs,rfl,Tr.each_holds (hon' _ _) (by simpa using h2 rfl),fin⟩
    |_=>exact hK1.elim
   |_=>rw[hs]at hK1;exact hK1.elim
theorem ops_ok{run yld:Nat->Con}(hrun:∀f,FnOk P f (run f))(hyld:YldOk P yld)(hrb:∀f,ConB (run f))(hyb:∀l,ConB (yld l)){ops:Array Oper}{r:Option Nat}{Q:Exit->Act->World->Prop}:∀(l:List Oper)(k:Nat)(ρ:Rh)(σ:St)(a:Act)(w:World)(K:St->Prop),
  (∀j,l[j]?=ops[k+j]?)->(q9f P run yld ops l σ).Holds K->Mod M w0 ρ σ a w->(∀σ' ρ' a' w',K σ'->σ.h.nx<=σ'.h.nx->Agree σ.h.nx ρ ρ'->Mod M w0 ρ' σ' a' w'->Q .normal a' w')->
  wpOpsIn (Fw r) 0 P ops Q (List.range' k l.length) a w
 | [],k,ρ,σ,a,w,K,_,hK,hm,hQ=>by
  simp only[List.length_nil,List.range'_zero,wpOpsIn];exact hQ σ ρ a w hK (Nat.le_refl _) (Agree.refl _ _) hm
 |o::l,k,ρ,σ,a,w,K,hl,hK,hm,hQ=>by
  have ho:ops[k]?=some o:=by simpa using(hl 0).symm
  have hl':∀j,l[j]?=ops[k+1+j]?:=λj=>by have:=hl (j+1);simpa [Nat.add_assoc,Nat.add_comm 1 j]using this
  simp only[List.length_cons,List.range'_succ,wpOpsIn,ho]
  have hgo:∀(g:Bool)(σ':St)B HB,σ'.On B HB->(match g with
    |true=>(opS P run yld σ'.ev σ'.h o.op).bind λx=>q9f P run yld ops l (σ'.put o.dst x.1 x.2)
    |false=>q9f P run yld ops l (σ'.put o.dst (.k undef) σ'.h):Tr St).Each (St.On B HB):=λg σ' B HB hon=>by
   cases g with
   |true=>
    refine Tr.each_bind' (p:=λy=>y.2.b=σ'.h.b) (λx hx=>?_) (each_opb hrb hyb);refine q5p hrb hyb l _ B HB ?_;have:=put_on (d:=o.dst) (s:=x.1) hx
    rwa [hon.1,hon.2]at this
   |false=>
    refine q5p hrb hyb l _ B HB ?_;have:=put_on (σ:=σ') (d:=o.dst) (s:=.k undef) (h':=σ'.h) rfl
    rwa [hon.1,hon.2]at this
  obtain⟨σ1,K',hm1,hh1,hK1,hfin⟩:=guardM_ok hgo hm hK
  have hQ':∀σ' ρ' a' w',K' σ'->σ.h.nx<=σ'.h.nx->Agree σ.h.nx ρ ρ'->Mod M w0 ρ' σ' a' w'->Q .normal a' w':=λσ' ρ' a' w' h1 h2 h3 h4=>by
   obtain⟨y,hy,hny,hmy⟩:=hfin σ' w0 w' ρ' a' h1 h4;exact hQ y ρ' a' w' hy (Nat.le_trans h2 hny) h3 hmy
  cases hw:Region.wanted o (yielded ops a.tmps)with
  |true=>
   rw[hw]at hK1;simp only at hK1;rw[if_pos rfl];have hg:=op_ok (P:=P) hrun hyld (o:=o) (a:=a) hm1.hp hm1.ev (Tr.holds_bind hK1);refine hg r _ _ λs h' ρ' x w' h1 h2 h3 h4 h5=>?_;have hm2:=hm1.put h2 h3 h4 h5 o.dst;have hnx:(σ1.put o.dst s h').h=h':=by cases o.dst<;>rfl
   refine ops_ok hrun hyld hrb hyb l (k+1) ρ' _ _ w' K' hl' h1 hm2 λσ' ρ'' a' w'' q1 q2 q3 q4=>?_;rw[hnx]at q2 q3;rw[hh1]at h2 h3;exact hQ' σ' ρ'' a' w'' q1 (Nat.le_trans h2 q2) (h3.trans h2 q3) q4
  |false=>
   rw[hw]at hK1;simp only at hK1;rw[if_neg (by simp)];refine⟨λ_ _=>trivial,?_⟩;have hm2:=hm1.put (Nat.le_refl _) (Agree.refl _ _) hm1.hp (s:=.k undef) (x:=undef) rfl o.dst;have hnx:(σ1.put o.dst (.k undef) σ1.h).h.nx=σ1.h.nx:=by cases o.dst<;>rfl
   refine ops_ok hrun hyld hrb hyb l (k+1) ρ _ _ w K' hl' hK1 hm2 λσ' ρ'' a' w'' q1 q2 q3 q4=>?_;rw[hnx,hh1]at q2 q3;exact hQ' σ' ρ'' a' w'' q1 q2 q3 q4
theorem qah{t:TypeId}{x:Value}{y:Value}{w':World}(h:(Instr.loadAt t x).run P w=.ok y w'):∃a,x=.pointer (some a)/\(loadVar t a).run P w=.ok y w':=by
 unfold Instr.loadAt Instr.sureAddr at h;cases x with
 |pointer a=>cases a with
  |some a=>exact⟨a,rfl,by simpa using h⟩
  |none=>simp at h
 |_=>simp at h
def resV(tmps:Array Value):ResultVar->Sem Value
 | .tmp t=>pure (tmps.getD t undef)
 | .cell a t=>do loadVar t (<-asAddr (tmps.getD a undef))
theorem results_eq(fn:Func)(tmps:Array Value):results fn tmps=(do let vs <-fn.results.mapM (resV tmps);pure (if h:vs.size=1 then vs[0]else .tuple vs)):=by
 unfold results;congr 1
theorem resOne_ok{σ:St}{a:Act}(hm:Mod M w0 ρ σ a w){r:ResultVar}{K:SV->Prop}(hK:(resOne P σ r).Holds K):∃s x,K s/\s.fit σ.h.nx ρ x/\(resV a.tmps r).run P w=.ok x w:=by
 cases r with
 |tmp t=>exact⟨_,_,hK,hm.ev (.tmp t),by simp[resV,Act.eval]⟩
 |cell ad t=>
  simp only[resOne]at hK;obtain⟨sv,x,h1,h2,h3⟩:=read_ok hm.hp (hm.ev (.tmp ad)) (Tr.holds_bind hK);obtain⟨b,hb,hl⟩:=qah h3;refine⟨sv,x,h1,h2,?_⟩;have:a.tmps.getD ad undef=.pointer (some b):=hb;simp only[resV,this,Sem.run_bind];simp[asAddr,hl]
theorem resAll_ok{σ:St}{a:Act}(hm:Mod M w0 ρ σ a w):∀{rs:List ResultVar}{K:List SV->Prop},(resAll P σ rs).Holds K->∃ss xs,K ss/\SV.fits σ.h.nx ρ ss xs/\(rs.mapM (resV a.tmps)).run P w=.ok xs w
 | [],K,hK=>⟨[],[],hK,by simp[SV.fits],by simp⟩
 |r::rs,K,hK=>by
  simp only[resAll]at hK;obtain⟨s,x,h1,h2,h3⟩:=resOne_ok (P:=P) hm (Tr.holds_bind hK);obtain⟨ss,xs,k1,k2,k3⟩:=resAll_ok hm (Tr.holds_bind h1);refine⟨s::ss,x::xs,k1,by simp only[SV.fits];exact⟨h2,k2⟩,?_⟩;simp[List.mapM_cons,h3,k3]
theorem resS_ok{σ:St}{a:Act}(hm:Mod M w0 ρ σ a w){fn:Func}{K:SV×SH->Prop}(hK:(resS P fn σ).Holds K):∃s x,K (s,σ.h)/\s.fit σ.h.nx ρ x/\(results fn a.tmps).run P w=.ok x w:=by
 unfold resS at hK;obtain⟨ss,xs,h1,h2,h3⟩:=resAll_ok (P:=P) hm (Tr.holds_bind hK)
 have hmap:(fn.results.mapM (resV a.tmps)).run P w=.ok xs.toArray w:=by
  rw[Array.mapM_eq_mapM_toList];simp[h3]
 rw[results_eq];simp only[Sem.run_bind,hmap,Result.andThen_ok,Sem.run_pure];have hlen:=q0a h2;split at h1
 .rename_i s;obtain⟨x,r,rfl,hx,hr⟩:=q03 h2;have:=q0b hr;subst this;exact⟨s,x,h1,hx,by simp⟩
 .rename_i hne;refine⟨.tup ss,.tuple xs.toArray,h1,⟨xs,rfl,h2⟩,?_⟩;rw[dif_neg];intro h;cases ss with
  |nil=>simp at h;rw[h]at hlen;simp at hlen
  |cons s r=>cases r with
   |nil=>exact hne s rfl
   |cons _ _=>simp at h;rw[h]at hlen;simp at hlen
theorem setObj_other{h:SH}{i:Nat}{o o':Obj}(hm:HM M w0 ρ h w)(hg:h.get i=.obj o):HM M w0 ρ (h.set i (.obj o')) (w.putObj (ρ i).blk o'):=by
 have hf:=hm.ob i;rw[hg]at hf;have hown:(h.get i).own (ρ i):=by rw[hg];trivial
 exact hm.setOwn hown trivial rfl rfl rfl (by simp[World.putObj]) (λj hj=>World.putObj_heap_other hj) (World.putObj_heap_same (Array.getElem?_eq_some_iff.1 hf.2.2).1) ⟨hf.1,hf.2.1,rfl⟩
theorem q3w{r:Nat}{o:Obj}(h:w.heap[r]?=some o)(hc:∀a b c,o≠.cells a b c):(getObj r).run P w=.ok o w:=by
 unfold getObj Sem.run;rw[h];cases o<;>first|rfl|exact absurd rfl (hc _ _ _)
theorem q5i{r:Nat}{o o':Obj}(h:w.heap[r]?=some o)(hc:∀a b c,o≠.cells a b c):(setObj r o').run P w=.ok () (w.putObj r o'):=by
 simp only[setObj,Sem.run,h];cases o<;>first|rfl|exact absurd rfl (hc _ _ _)
theorem marks_ok{fn:Func}{R:Ending->World->Prop}{tmps:Array Value}:∀(ds:List Deferred)(d s:List Nat)(ρ:Rh)(h h':SH)(w:World),Mix ρ d s ds->s.Nodup->(∀b∈s,Sf1 M w0 ρ b)->q45 d h=some h'->HM M w0 ρ h w->h'.nx=h.nx/\
  ((∀ρ' w',ρ'.lc=ρ.lc->ρ'.lo=ρ.lo->(∀b o,ρ.mem b=some o->b∉s->ρ'.mem b=some o)->HM M w0 ρ' h' w'->∃v,(results fn tmps).run P w'=.ok v w'/\R (.returned v) w')->LeavesInM Fence.wide 0 P fn tmps R ds .returning w)
 | [],d,s,ρ,h,h',w,hx,_,_,he,hm=>by
  cases hx;simp only[q45,Option.some.injEq]at he;subst he;exact⟨rfl,λhr=>hr ρ w rfl rfl (λ_ _ h _=>h) hm⟩
 |x::ds,d,s,ρ,h,h',w,hx,hnd,hs,he,hm=>by
  cases hx with
  |@id d _ _ i hx=>
   simp only[q45]at he;split at he
   .rename_i hg;have hm1:=setObj_other (o':=.deferred none) hm hg;obtain⟨h1,h2⟩:=marks_ok ds d s ρ _ h' _ hx hnd hs he hm1;refine⟨h1,λhr=>⟨by simp,.inl ⟨(ρ i).blk,w.putObj (ρ i).blk (.deferred none),rfl,?_,h2 hr⟩⟩⟩;have hf:=hm.ob i;rw[hg]at hf;simp[Instr.takeDeferred,q3w hf.2.2 (by simp),q5i hf.2.2 (by simp)]
   .cases he
  |@sf _ s _ b hx=>
   obtain⟨k1,k2,k3⟩:=hs b (List.mem_cons_self ..);have hob:=hm.fz _ _ k1;have hm1:=hm.unfrz (w':=w.putObj b (.deferred none)) k1 (by simp[dataO]) k2 rfl rfl rfl (by simp[World.putObj]) (λj hj=>World.putObj_heap_other hj);have hnb:=List.nodup_cons.1 hnd
   obtain⟨h1,h2⟩:=marks_ok ds d s ⟨ρ.lc,q5b ρ.mem b,ρ.lo⟩ h h' _ (hx.lc λ_ _=>rfl) hnb.2 (λc hc=>by
    obtain⟨q1,q2,q3⟩:=hs c (List.mem_cons_of_mem _ hc);exact⟨by show q5b ρ.mem b c=_;simp only[q5b];rw[if_neg (by rintro rfl;exact hnb.1 hc)];exact q1,q2,q3⟩) he hm1
   refine⟨h1,λhr=>⟨by simp,.inl ⟨b,w.putObj b (.deferred none),rfl,?_,h2 λρ' w' e1 e2 e3 hm'=>hr ρ' w' e1 e2 (λc o hc hcs=>e3 c o ?_ λh=>hcs (List.mem_cons_of_mem _ h)) hm'⟩⟩⟩
   .simp[Instr.takeDeferred,q3w hob (by simp),q5i hob (by simp)]
   .show q5b ρ.mem b c=_;simp only[q5b];rw[if_neg (by rintro rfl;exact hcs (List.mem_cons_self ..))];exact hc
theorem argLog_look:∀(args:List SV)(k i:Nat),look (.k undef) i (argLog k args)=if k<=i/\i<k+args.length then args.getD (i-k) (.k undef)else .k undef
 | [],k,i=>by simp[argLog,look]
 |a::r,k,i=>by
  simp only[argLog,q1i,List.length_cons];by_cases hik:i=k
  .subst hik;simp
  .rw[if_neg hik,argLog_look r (k+1) i];by_cases hc:k<=i/\i<k+(r.length+1)
   .rw[if_pos (by omega),if_pos hc];have:i-k=(i-(k+1))+1:=by omega
    rw[this];simp
   .rw[if_neg (by omega),if_neg hc]
theorem args_slots{n k:Nat}{args:List SV}{vs:List Value}(hf:SV.fits n ρ args vs)(hle:args.length<=k):Slots n ρ k (argLog 0 args) (vs.toArray++Array.replicate (k-vs.toArray.size) undef):=by
 have hl:=q0a hf;refine⟨by simp;omega,λi hi=>?_⟩;rw[argLog_look];simp only[Array.getD_eq_getD_getElem?];by_cases hia:i<args.length
 .rw[if_pos (by omega)]
  have hs:args[i]?=some (args.getD i (.k undef)):=by
   rw[List.getElem?_eq_getElem hia,List.getD_eq_getElem?_getD,List.getElem?_eq_getElem hia];rfl
  obtain⟨x,hx,hfx⟩:=q44 hf hs;rw[Array.getElem?_append_left (by simp;omega)];simp only[List.getElem?_toArray,hx,Option.getD_some,Nat.sub_zero];exact hfx
 .rw[if_neg (by omega),Array.getElem?_append_right (by simp;omega)];simp only[SV.fit];rw[Array.getElem?_replicate];split<;>rfl
theorem fnRun_ok{f:Nat}{ex:Code->St->Tr (Ex×St)}
  (hex:∀(M:Nat->Prop)(w0 w:World)(ρ:Rh)(fn:Func)(c:Code)(σ:St)(a:Act)(K:Ex×St->Prop),P.funcs[f]?=some fn->fn.body=some c->(ex c σ).Holds K->Mod M w0 ρ σ a w->c.wpIn Fence.wide 0 P (PostX M w0 ρ σ.h.nx K) a w) :
  FnOk P f (fnRun P ex f):=by
 intro M w0 w ρ h args vs K hK hm hfits;unfold fnRun at hK;split at hK
 .rename_i fn hfn;split at hK
  .rename_i c hc;obtain⟨hle,hK1⟩:=q08 hK;have hle':=Nat.le_of_ble_eq_true hle;have hK2:=Tr.holds_bind hK1;refine(callsIn_wide (n:=0)).1 (callsIn_of_wp_marks hfn hc trivial ?_)
   let ρ1:Rh:=⟨ρ.lc,ρ.mem,⟨ρ.lo.old,ρ.mem⟩⟩
   have hfits1:SV.fits h.nx ρ1 args vs:=SV.fits_mono0 (ρ:=ρ) (ρ':=ρ1) (Nat.le_refl _) ⟨λ_ _=>rfl,λ_ _ hb _=>hb⟩ _ _ hfits;have hm1:HM M w0 ρ1 h w:=hm.relo rfl
   have hmod:Mod M w0 ρ1 ⟨fn.ntmps,argLog 0 args,h,[],[]⟩ { tmps:=vs.toArray++Array.replicate (fn.ntmps-vs.toArray.size) undef,defers:=[]} w:=
    ⟨by simpa [St.lg]using args_slots hfits1 hle',Dfs.nil λ_ _ hb=>hb,by simp,hm1⟩
   refine wpIn_mono (hex M w0 w ρ1 fn c _ _ _ hfn hc hK2 hmod) ?_;rintro x a' w' ⟨e,σ',ρ',rfl,hk,hn,ha,hm'⟩
   have fin:(match q45 σ'.d σ'.h with
      |some h'=>resS P fn ⟨σ'.n,σ'.t,h',[],σ'.b⟩
      |none=>.bad 510:Tr (SV×SH)).Holds K->LeavesInM Fence.wide 0 P fn a'.tmps (FnGood M w0 ρ h K) a'.defers .returning w':=by
    intro hk;split at hk
    .rename_i h' he;obtain⟨s0,hmix,hnd,hsf⟩:=hm'.df.mix;obtain⟨hnx,hleave⟩:=marks_ok (P:=P) (fn:=fn) (R:=FnGood M w0 ρ h K) (tmps:=a'.tmps) _ σ'.d s0 ρ' σ'.h h' w' hmix hnd hsf he hm'.hp;refine hleave λρ2 w'' e1 e2 e3 hm''=>?_
     have hag2:Agr σ'.h.nx ρ' ρ2:=⟨λi _=>by rw[e1],λb o hb hd=>e3 b o hb λhbs=>by
      have:=(hsf b hbs).1;rw[this]at hb;cases hb;exact hd⟩
     have hm0:∀b o,ρ2.lo.m0 b=some o->ρ2.mem b=some o:=λb o hb=>by
      rw[e2]at hb;refine e3 b o (hm'.df.m0 b o hb) λhbs=>?_;rw[(hsf b hbs).2.2]at hb;cases hb
     have hm3:Mod M w0 ρ2 ⟨σ'.n,σ'.t,h',[],σ'.b⟩ { tmps:=a'.tmps,defers:=[]} w'':=⟨by have:=hm'.tm.mono0 (Nat.le_refl _) hag2;rw[hnx];exact this,Dfs.nil hm0,by simp,hm''⟩;obtain⟨s,x,h1,h2,h3⟩:=resS_ok (P:=P) hm3 hk;have hlo:ρ2.lo=⟨ρ.lo.old,ρ.mem⟩:=e2.trans ha.2.2;have hm4:HM M w0 ⟨ρ2.lc,ρ2.mem,ρ.lo⟩ h' w'':=hm''.relo (by rw[hlo]);refine⟨x,h3,s,h',⟨ρ2.lc,ρ2.mem,ρ.lo⟩,x,h1,by rw[hnx];exact hn,⟨λi hi=>?_,λb o hb=>?_,rfl⟩,hm4,SV.fit_mono0 (ρ:=ρ2) (ρ':=⟨ρ2.lc,ρ2.mem,ρ.lo⟩) (n:=h'.nx) (Nat.le_refl _) ⟨λ_ _=>rfl,λ_ _ hb _=>hb⟩ _ _ h2,rfl⟩
     .show ρ2.lc i=ρ.lc i;rw[e1];exact ha.1 i hi
     .refine hm0 b o ?_;rw[hlo];exact hb
    .exact hk.elim
   cases e with
   |normal=>exact fin hk
   |ret=>exact fin hk
   |exit id=>exact hk.elim
   |goto l=>exact hk.elim
  .exact hK.elim
 .exact hK.elim
theorem yldSlots_ok{n:Nat}{k:Nat}:∀(ps:List Nat)(as:List SV)(vs:List Value)(t:List (Nat×SV))(tm:Array Value),SV.fits n ρ as vs->Slots n ρ k t tm->
  Slots n ρ k (q63 ps as t) ((ps.zip vs).foldl (λtm x=>tm.setIfInBounds x.1 x.2) tm)
 | [],as,vs,t,tm,_,hs=>by simp[q63];exact hs
 |p::ps,[],vs,t,tm,hf,hs=>by
  have:=q0b hf;subst this;simp[q63];exact hs
 |p::ps,a::as,vs,t,tm,hf,hs=>by
  obtain⟨x,r,rfl,hx,hr⟩:=q03 hf;simp only[q63,List.zip_cons_cons,List.foldl_cons];exact yldSlots_ok ps as r _ _ hr (slots_put hs hx p)
theorem q7w{h:SH}{l:Nat}(hm:HM M w0 ρ h w){st:LoopState}{pd:Option Code}{n:Nat}{t:List (Nat×SV)}{ps:Array Tmp}{asg body:Code}{df:Nat}(hg:h.get l=.loop st pd n t ps asg body df):
  (ρ l).nl=false/\df<h.nx/\∃f tm,w.heap[(ρ l).blk]?=some (.loop ⟨st,pd,f,tm,ps,asg,body,(ρ df).blk⟩)/\Slots h.nx ρ n t tm:=by
 have hf:=hm.ob l;rw[hg]at hf;exact hf
theorem loop_set{h:SH}{l:Nat}(hm:HM M w0 ρ h w){st st':LoopState}{pd pd':Option Code}{n:Nat}{t:List (Nat×SV)}{ps:Array Tmp}{asg body:Code}{df:Nat}(hg:h.get l=.loop st pd n t ps asg body df)
  {f:Nat} {tm:Array Value} (hob:w.heap[(ρ l).blk]?=some (.loop ⟨st,pd,f,tm,ps,asg,body,(ρ df).blk⟩)) (hs:Slots h.nx ρ n t tm) :
  HM M w0 ρ (h.set l (.loop st' pd' n t ps asg body df)) (w.putObj (ρ l).blk (.loop ⟨st',pd',f,tm,ps,asg,body,(ρ df).blk⟩)):=by
 obtain⟨hnl,hdf,_⟩:=q7w hm hg;have hown:(h.get l).own (ρ l):=by rw[hg];trivial
 exact hm.setOwn hown trivial rfl rfl rfl (by simp[World.putObj]) (λj hj=>World.putObj_heap_other hj) (World.putObj_heap_same (Array.getElem?_eq_some_iff.1 hob).1) ⟨hnl,hdf,f,tm,rfl,hs⟩
theorem loop_setLp{h:SH}{l:Nat}(hm:HM M w0 ρ h w){st st':LoopState}{pd pd':Option Code}{n:Nat}{t:List (Nat×SV)}{ps:Array Tmp}{asg body:Code}{df:Nat}(hg:h.get l=.loop st pd n t ps asg body df)
  {f:Nat} {tm:Array Value} (hob:w.heap[(ρ l).blk]?=some (.loop ⟨st,pd,f,tm,ps,asg,body,(ρ df).blk⟩)) (hs:Slots h.nx ρ n t tm) :
  HM M w0 ρ (h.setLp l st' pd') (w.putObj (ρ l).blk (.loop ⟨st',pd',f,tm,ps,asg,body,(ρ df).blk⟩)):=
 (loop_set (st':=st') (pd':=pd') hm hg hob hs).same rfl λj=>by
  rw[SH.get_set];show lookE (lookE .dead j h.b) j ((l,.lp st' pd')::h.l)=_;rw[q1o];by_cases hjl:j=l
  .subst hjl;rw[if_pos rfl,if_pos rfl];have:lookE (lookE .dead j h.b) j h.l=.loop st pd n t ps asg body df:=hg;rw[this];rfl
  .rw[if_neg hjl,if_neg hjl];rfl
theorem run_endRound{r:Nat}{o:Loop}(h:w.heap[r]?=some (.loop o))(j:Option Code):
  (Instr.endRound r j).run P w=.ok (.bool j.isNone) (w.putObj r (.loop { o with state:=if j.isNone then .ready else .done,pending:=j})):=by
 simp[Instr.endRound,Instr.getLoop,q3w h (by simp),q5i h (by simp)]
theorem yldRun_ok{ex:Nat->Code->St->Tr (Ex×St)}
  (hex:∀(l:Nat)(c:Code)(M:Nat->Prop)(w0 w:World)(ρ:Rh)(σ:St)(a:Act)(K:Ex×St->Prop),l<σ.h.nx->(ex l c σ).Holds K->Mod M w0 ρ σ a w->c.wpIn (Fw (some (ρ l).blk)) 0 P (PostX M w0 ρ σ.h.nx K) a w) :
  YldOk P (q6w ex):=by
 intro M w0 w ρ h l args vs K r hK hm hfits hl;unfold q6w at hK;split at hK
 .rename_i pd n t ps asg body df hg;obtain⟨hlen,hK1⟩:=q08 hK;have hlen':=q02 hlen;have hK2:=Tr.holds_bind hK1;obtain⟨hnl,hdf,f,tm,hob,hslots0⟩:=q7w hm hg;have hvl:=q0a hfits
  let ρ1:Rh:=⟨ρ.lc,ρ.mem,⟨ρ.lo.old,ρ.mem⟩⟩
  have hag0:Agr h.nx ρ ρ1:=⟨λ_ _=>rfl,λ_ _ hb _=>hb⟩;have hfits1:SV.fits h.nx ρ1 args vs:=SV.fits_mono0 (Nat.le_refl _) hag0 _ _ hfits;have hslots:Slots h.nx ρ1 n t tm:=hslots0.mono0 (Nat.le_refl _) hag0;have hmr:HM M w0 ρ1 h w:=hm.relo rfl;refine⟨f,(ps.zip vs.toArray).foldl (λtmps(t,a)=>tmps.setIfInBounds t a) tm,asg,body,?_,?_⟩
  .have hsz:¬vs.toArray.size≠ps.size:=by simp;omega
   simp only[Instr.yield,Instr.getLoop,Sem.run_bind,q3w hob (by simp),Result.andThen_ok,Sem.run_pure];rw[if_neg hsz];simp
  .refine roundIn_of_wpIn trivial ?_
   have hfold:(ps.zip vs.toArray).foldl (λtmps(t,a)=>tmps.setIfInBounds t a) tm=(ps.toList.zip vs).foldl (λtm x=>tm.setIfInBounds x.1 x.2) tm:=by
    rw[<-Array.foldl_toList,Array.toList_zip]
   rw[hfold]
   have hmod:Mod M w0 ρ1 ⟨n,q63 ps.toList args t,h,[],[]⟩ { tmps:=(ps.toList.zip vs).foldl (λtm x=>tm.setIfInBounds x.1 x.2) tm,defers:=[]} w:=
    ⟨by simpa [St.lg]using yldSlots_ok ps.toList _ _ _ _ hfits1 hslots,Dfs.nil λ_ _ hb=>hb,by simp,hmr⟩
   have hwp:=hex l asg M w0 w ρ1 _ _ _ hl hK2 hmod;refine wpIn_mono hwp ?_;rintro x a1 w1 ⟨e,σ1,ρr,rfl,hk,hn1,ha1,hm1⟩;simp only at hk hn1 ha1;cases e with
   |normal=>
    simp only at hk;split at hk
    .rename_i pd' n' t' ps' asg' body' df' hg1;simp only[Ex.ex,Exit.then];have hk2:=Tr.holds_bind hk;obtain⟨hnl1,hdf1,f1,tm1,hob1,hs1⟩:=q7w hm1.hp hg1;have hm2:=loop_setLp (st':=.busy) (pd':=pd') hm1.hp hg1 hob1 hs1;have hrl:(ρr l).blk=(ρ l).blk:=by rw[ha1.1 l hl]
     refine⟨w1.putObj (ρr l).blk (.loop ⟨.busy,pd',f1,tm1,ps',asg',body',(ρr df').blk⟩),?_,?_⟩
     .rw[<-hrl];simp[Instr.beginRound,Instr.getLoop,q3w hob1 (by simp),q5i hob1 (by simp)]
     .have hmod2:Mod M w0 ρr ⟨σ1.n,σ1.t,σ1.h.setLp l .busy pd',σ1.d,σ1.b⟩ a1 _:=⟨hm1.tm,hm1.df,hm1.dl,hm2⟩;have hwp2:=hex l body M w0 _ ρr ⟨σ1.n,σ1.t,σ1.h.setLp l .busy pd',σ1.d,σ1.b⟩ _ _ (Nat.lt_of_lt_of_le hl hn1) hk2 hmod2;rw[show Fw (some (ρr l).blk)=Fw (some (ρ l).blk) by rw[hrl]]at hwp2;refine wpIn_mono hwp2 ?_;rintro x2 a2 w2 ⟨e2,σ2,ρ2,rfl,hk3,hn2,ha2,hm3⟩;simp only at hk3 hn2 ha2;split at hk3
      .rename_i st2 pd2 n2 t2 ps2 asg2 body2 df2 hg2;obtain⟨hnl2,hdf2,f2,tm2,hob2,hs2⟩:=q7w hm3.hp hg2;have hl1:l<σ1.h.nx:=Nat.lt_of_lt_of_le hl hn1;have hrl2:(ρ2 l).blk=(ρ l).blk:=by rw[ha2.1 l hl1,hrl]
       have hfin:∀(st':LoopState)(pd':Option Code)(b:Bool),K (.k (.bool b),σ2.h.setLp l st' pd')->
         FnGood M w0 ρ h K (.returned (.bool b)) (w2.putObj (ρ2 l).blk (.loop ⟨st',pd',f2,tm2,ps2,asg2,body2,(ρ2 df2).blk⟩)):=λst' pd' b hk=>
        ⟨_,_,⟨ρ2.lc,ρ2.mem,ρ.lo⟩,_,hk,Nat.le_trans hn1 hn2,⟨λi hi=>(ha1.trans hn1 ha2).1 i hi,λb o hb=>(ha1.trans hn1 ha2).2.1 b o hb,rfl⟩,(loop_setLp hm3.hp hg2 hob2 hs2).relo (L:=ρ.lo) (by rw[(ha1.trans hn1 ha2).2.2]),rfl,rfl⟩
       have hob2':=hob2;rw[hrl2]at hob2';cases e2 with
       |normal=>
        refine⟨_,_,run_endRound hob2' none,?_⟩;rw[<-hrl2];exact hfin _ _ true hk3
       |ret=>
        refine⟨_,_,run_endRound hob2' _,?_⟩;rw[<-hrl2];exact hfin _ _ false hk3
       |exit id=>
        refine⟨_,_,run_endRound hob2' _,?_⟩;rw[<-hrl2];exact hfin _ _ false hk3
       |goto id=>
        refine⟨_,_,run_endRound hob2' _,?_⟩;rw[<-hrl2];exact hfin _ _ false hk3
      .exact hk3.elim
    .exact hk.elim
   |exit id=>exact hk.elim
   |goto id=>exact hk.elim
   |ret=>exact hk.elim
 .exact hK.elim
def q04(P:Program)(b:Code)(L:St->Tr (Ex×St)):Prop:=
 ∀(M:Nat->Prop)(w0 w:World)(ρ:Rh)(σ:St)(a:Act)(K:Ex×St->Prop),(L σ).Holds K->Mod M w0 ρ σ a w->
  (Code.loop b).wpIn (Fw none) 0 P (PostX M w0 ρ σ.h.nx K) a w
theorem PostX.chain{nx nx':Nat}{ρ':Rh}{K:Ex×St->Prop}{x:Exit}{a:Act}(h:PostX M w0 ρ' nx' K x a w)(hn:nx<=nx')(ha:Agree nx ρ ρ'):PostX M w0 ρ nx K x a w:=
 let ⟨e,σ',ρ'',h1,h2,h3,h4,h5⟩:=h;⟨e,σ',ρ'',h1,h2,Nat.le_trans hn h3,ha.trans hn h4,h5⟩
def ExOk(P:Program)(rd:Option Nat)(c:Code)(ex:St->Tr (Ex×St)):Prop:=
 ∀(M:Nat->Prop)(w0 w:World)(ρ:Rh)(σ:St)(a:Act)(K:Ex×St->Prop),(∀l,rd=some l->l<σ.h.nx)->(ex σ).Holds K->Mod M w0 ρ σ a w->
  c.wpIn (Fw (rd.map λl=>(ρ l).blk)) 0 P (PostX M w0 ρ σ.h.nx K) a w
theorem fw_agree{rd:Option Nat}{n:Nat}{ρ':Rh}(hrd:∀l,rd=some l->l<n)(ha:Agree n ρ ρ'):Fw (rd.map λl=>(ρ' l).blk)=Fw (rd.map λl=>(ρ l).blk):=by
 cases rd with
 |none=>rfl
 |some l=>simp only[Option.map_some];rw[ha.1 l (hrd l rfl)]
theorem loopRun_ok{rd:Option Nat}{c:Code}{ex:St->Tr (Ex×St)}(hex:ExOk P rd c ex):∀(m:Nat)(M:Nat->Prop)(w0 w:World)(ρ:Rh)(σ:St)(a:Act)(K:Ex×St->Prop),(∀l,rd=some l->l<σ.h.nx)->(qag ex m σ).Holds K->
  Mod M w0 ρ σ a w->Code.roundsIn (Fw (rd.map λl=>(ρ l).blk)) 0 P c (PostX M w0 ρ σ.h.nx K) m a w
 |0,M,w0,w,ρ,σ,a,K,_,hK,_=>hK.elim
 |m+1,M,w0,w,ρ,σ,a,K,hrd,hK,hm=>by
  rw[roundsIn_succ];refine wpIn_mono (hex M w0 w ρ σ a _ hrd (Tr.holds_bind hK) hm) ?_;rintro x a' w' ⟨e,σ',ρ',rfl,hk,hn,ha,hm'⟩;cases e with
  |normal=>
   have h1:=loopRun_ok hex m M w0 w' ρ' σ' a' K (λl hl=>Nat.lt_of_lt_of_le (hrd l hl) hn) hk hm';rw[fw_agree hrd ha]at h1;simp only[Ex.ex,Exit.then]
   have mono:∀m a w,Code.roundsIn (Fw (rd.map λl=>(ρ l).blk)) 0 P c (PostX M w0 ρ' σ'.h.nx K) m a w->Code.roundsIn (Fw (rd.map λl=>(ρ l).blk)) 0 P c (PostX M w0 ρ σ.h.nx K) m a w:=by
    intro m
    induction m with
    |zero=>intro a w h;exact h
    |succ m ih=>
     intro a w h;rw[roundsIn_succ]at h ⊢;refine wpIn_mono h ?_;intro x a w h;cases x with
     |normal=>exact ih a w h
     |_=>exact h.chain hn ha
   exact mono _ _ _ h1
  |exit id=>exact⟨_,σ',ρ',rfl,hk,hn,ha,hm'⟩
  |goto id=>exact⟨_,σ',ρ',rfl,hk,hn,ha,hm'⟩
  |ret=>exact⟨_,σ',ρ',rfl,hk,hn,ha,hm'⟩
theorem run_endLoop{r:Nat}{o:Loop}(h:w.heap[r]?=some (.loop o))(hb:o.state≠.busy):
  (Instr.endLoop r).run P w=.ok o.pending (w.putObj r (.loop { o with state:=.exhausted})):=by
 simp[Instr.endLoop,Instr.getLoop,q3w h (by simp),q5i h (by simp)];exactλh=>absurd h hb
theorem endLoop_ok{rd:Option Nat}{ex:Code->St->Tr (Ex×St)}(hex:∀c,ExOk P rd c (ex c)){l:Nat}{σ:St}{a:Act}{K:Ex×St->Prop}(hrd:∀l,rd=some l->l<σ.h.nx)(hK:(q6h ex l σ).Holds K)(hm:Mod M w0 ρ σ a w):
  ∃jump w₄,(Instr.endLoop (ρ l).blk).run P w=.ok jump w₄/\(match jump with|none=>PostX M w0 ρ σ.h.nx K .normal a w₄|some c=>c.wpIn (Fw (rd.map λl=>(ρ l).blk)) 0 P (PostX M w0 ρ σ.h.nx K) a w₄):=by
 unfold q6h at hK;split at hK
 .rename_i st pd n t ps asg body df hg;obtain⟨hnl,hdf,f,tm,hob,hs⟩:=q7w hm.hp hg;have hm2:Mod M w0 ρ ⟨σ.n,σ.t,σ.h.set l (.loop .exhausted pd n t ps asg body df),σ.d,σ.b⟩ a _:=⟨hm.tm,hm.df,hm.dl,loop_set hm.hp hg hob hs⟩
  have hst:st≠.busy:=by
   rintro rfl;exact hK
  cases pd with
  |none=>
   have hk:K (.normal,⟨σ.n,σ.t,σ.h.set l (.loop .exhausted none n t ps asg body df),σ.d,σ.b⟩):=by
    cases st with
    |busy=>exact absurd rfl hst
    |ready=>exact hK
    |done=>exact hK
    |exhausted=>exact hK
   exact⟨none,_,run_endLoop hob hst,.normal,_,ρ,rfl,hk,Nat.le_refl _,Agree.refl _ _,hm2⟩
  |some c=>
   have hk:(ex c ⟨σ.n,σ.t,σ.h.set l (.loop .exhausted (some c) n t ps asg body df),σ.d,σ.b⟩).Holds K:=by
    cases st with
    |busy=>exact absurd rfl hst
    |ready=>exact hK
    |done=>exact hK
    |exhausted=>exact hK
   exact⟨some c,_,run_endLoop hob hst,hex c M w0 _ ρ ⟨σ.n,σ.t,σ.h.set l (.loop .exhausted (some c) n t ps asg body df),σ.d,σ.b⟩ a K hrd hk hm2⟩
 .exact hK.elim
theorem range_ok{rd:Option Nat}{g:Operand}{ps:Array Tmp}{asg body:Code}{σ:St}{a:Act}{K:Ex×St->Prop}{f:Nat}{cs:List SV}{run:Con}{ex:Code->St->Tr (Ex×St)}
  (hrun:FnOk P f run) (hex:∀c,ExOk P rd c (ex c)) (hrd:∀l,rd=some l->l<σ.h.nx) (hm:Mod M w0 ρ σ a w) (hev:σ.ev g=.fn f cs) (hc:callable P f=true)
  {d:List Nat} {mark:List Deferred} {h2:SH} {l:Nat} {ρ2:Rh} (hn:σ.h.nx<=h2.nx) (ha:Agree σ.h.nx ρ ρ2) (hl:l<h2.nx)
  (hent:∀fn,∃w1',(Instr.enterLoop fn a.tmps ps asg body (rd.map λl=>(ρ l).blk)).run P w=.ok ((ρ2 l).blk,mark) w1'/\HM M w0 ρ2 h2 w1')
  (hd:Dfs M w0 ρ2 d (mark++a.defers)) (hdl:∀i∈d,i<h2.nx)
  (hK:((run (.yl l::cs) h2).bind λx=>q6h ex l ⟨σ.n,σ.t,x.2,d,σ.b⟩).Holds K) :
  (Code.rangeFunc g ps asg body).wpIn (Fw (rd.map λl=>(ρ l).blk)) 0 P (PostX M w0 ρ σ.h.nx K) a w:=by
 have he:=hm.ev g;rw[hev]at he;obtain⟨cl,hge,hcl⟩:=he;refine wpIn_rangeFunc λfn _=>?_;obtain⟨w1',hent1,hm1'⟩:=hent fn;refine⟨(ρ2 l).blk,mark,w1',{ target:=.fn (.func f) cl.toArray,args:=#[.func (.yield (ρ2 l).blk) #[] #[]]},w1',f,(.func (.yield (ρ2 l).blk) #[] #[]::cl).toArray,w1',hent1,?_,λ_ _=>trivial,?_,λh=>(by cases h),?_⟩
 .simp only[resolve,hge,Deferred.ofValue];simp[Act.eval]
 .simp only[invoke];rw[callFunc_ok hc];simp
 .have hcall:=hrun M w0 w1' ρ2 h2 (.yl l::cs) (.func (.yield (ρ2 l).blk) #[] #[]::cl) _ (Tr.holds_bind hK) hm1' (by
   simp only[SV.fits];exact⟨⟨hl,rfl⟩,SV.fits_mono hn ha _ _ hcl⟩)
  refine callsIn_fw (hcall.mono ?_);rintro e w3 ⟨s,h3,ρ3,x,k1,k2,k3,k4,k5,rfl⟩
  have hmod:Mod M w0 ρ3 ⟨σ.n,σ.t,h3,d,σ.b⟩ { a with defers:=mark++a.defers} w3:=
   ⟨(hm.tm.mono hn ha).mono k2 k3,hd.mono k3 hdl,λi hi=>Nat.lt_of_lt_of_le (hdl i hi) k2,k4⟩
  have hrd3:∀l,rd=some l->l<h3.nx:=λl hl=>Nat.lt_of_lt_of_le (hrd l hl) (Nat.le_trans hn k2);obtain⟨jump,w4,e1,e2⟩:=endLoop_ok (P:=P) hex hrd3 k1 hmod;have hrl:(ρ3 l).blk=(ρ2 l).blk:=by rw[k3.1 l hl]
  rw[hrl]at e1;refine⟨jump,w4,e1,?_⟩;have haa:Agree σ.h.nx ρ ρ3:=ha.trans hn k3;cases jump with
  |none=>exact PostX.chain e2 (Nat.le_trans hn k2) haa
  |some c=>
   have e3:c.wpIn (Fw (rd.map λl=>(ρ3 l).blk)) 0 P (PostX M w0 ρ3 h3.nx K) { a with defers:=mark++a.defers} w4:=e2;rw[fw_agree hrd haa]at e3;exact wpIn_mono e3 λx a w h=>h.chain (Nat.le_trans hn k2) haa
theorem endMarks_b:∀(d:List Nat)(h h':SH),q45 d h=some h'->h'.b=h.b
 | [],h,h',he=>by simp only[q45,Option.some.injEq]at he;rw[he]
 |i::d,h,h',he=>by
  simp only[q45]at he;split at he
  .have:=endMarks_b d _ h' he;exact this
  .cases he
theorem fnRun_b{ex:Code->St->Tr (Ex×St)}(hex:∀c σ,(ex c σ).Each λy=>y.2.On σ.b σ.h.b)(f:Nat):ConB (fnRun P ex f):=by
 intro args h;unfold fnRun;split
 .rename_i fn hfn;split
  .refine q0i ?_ trivial;refine Tr.each_bind' (λx hx=>?_) (hex _ _)
   have fin:(match q45 x.2.d x.2.h with
     |some h'=>resS P fn ⟨x.2.n,x.2.t,h',[],x.2.b⟩
     |none=>.bad 510:Tr (SV×SH)).Each λy=>y.2.b=h.b:=by
    split
    .rename_i h' he;have e1:=endMarks_b _ _ _ he;unfold resS;refine Tr.each_bind (λss=>?_) _;have:h'.b=h.b:=e1.trans hx.2;split<;>exact this
    .trivial
   split
   .exact fin
   .exact fin
   .trivial
  .trivial
 .trivial
theorem yldRun_b{ex:Nat->Code->St->Tr (Ex×St)}(hex:∀l c σ,(ex l c σ).Each λy=>y.2.On σ.b σ.h.b)(l:Nat):ConB (q6w ex l):=by
 intro args h;unfold q6w;split
 .refine q0i ?_ trivial;refine Tr.each_bind' (λx hx=>?_) (hex _ _ _);split
  .split
   .refine Tr.each_bind' (λy hy=>?_) (hex _ _ _);have e:y.2.h.b=h.b:=hy.2.trans hx.2;split
    .split<;>exact e
    .trivial
   .trivial
  .trivial
 .trivial
theorem endLoop_on{ex:Code->St->Tr (Ex×St)}(hex:∀c σ,(ex c σ).Each λy=>y.2.On σ.b σ.h.b)(l:Nat)(σ:St):(q6h ex l σ).Each λy=>y.2.On σ.b σ.h.b:=by
 unfold q6h;split
 .split
  .trivial
  .split
   .exact⟨rfl,rfl⟩
   .exact hex _ ⟨σ.n,σ.t,σ.h.set l _,σ.d,σ.b⟩
 .trivial
theorem qaf{ex:St->Tr (Ex×St)}(hex:∀σ,(ex σ).Each λy=>y.2.On σ.b σ.h.b):∀(m:Nat)(σ:St),(qag ex m σ).Each λy=>y.2.On σ.b σ.h.b
 |0,σ=>trivial
 |m+1,σ=>by
  simp only[qag];refine Tr.each_bind' (λx hx=>?_) (hex σ);split
  .have:=qaf hex m x.2
   rwa [hx.1,hx.2]at this
  .exact hx
theorem unExit_on{id:Nat}{x:Ex×St}{B HB}(h:x.2.On B HB):(q6l id x).2.On B HB:=by
 unfold q6l;split
 .rw[bif_beq];split<;>exact h
 .exact h
theorem q2x{Γ:Gam}{Λ:Lam}:∀(n:Nat)(lam rd:Option Nat)(c:Code)(σ:St),(exec P Γ Λ n lam rd c σ).Each λy=>y.2.On σ.b σ.h.b
 |0,lam,rd,c,σ=>trivial
 |n+1,lam,rd,c,σ=>by
  have hrun:∀f,ConB (match Γ.g f with|some g=>g|none=>fnRun P (exec P Γ Λ n (some f) none) f):=λf=>by
   cases hg:Γ.g f with
   |some g=>exact Γ.hb f g hg
   |none=>exact fnRun_b (λc σ=>q2x n _ _ c σ) f
  have hyld:∀l,ConB (q6w (λl=>exec P Γ Λ n none (some l)) l):=yldRun_b λl c σ=>q2x n _ _ c σ;cases c with
  |skip=>exact⟨rfl,rfl⟩
  |label l=>exact⟨rfl,rfl⟩
  |ret=>exact⟨rfl,rfl⟩
  |exit id=>exact⟨rfl,rfl⟩
  |goto l=>exact⟨rfl,rfl⟩
  |region id ops d=>
   simp only[exec];refine q0i (q0i trivial (Tr.each_bind' (p:=λy=>y.On σ.b σ.h.b) (λx hx=>hx) (Tr.each_map (q:=λ_=>True) (λx _=>pop_on σ x) (q60 _)))) ?_;cases d with
   |true=>
    simp only[cond_true];refine q0i ?_ (q0i (q8i (λops'=>?_) 14 ops) trivial)
    .refine Tr.each_bind' (p:=λy=>y.On σ.b σ.h.b) (λx hx=>hx) (Tr.each_map (q:=λ_=>True) (λx _=>by
      have h:=pop_on (frzS (frB P Γ.q ops) ops.toList σ) x;rw[(frzS_on _ _ σ).1,(frzS_on _ _ σ).2]at h;exact h) ?_)
     exact q60 _
    .refine Tr.each_bind' (p:=λy=>y.On σ.b σ.h.b) (λx hx=>hx) (Tr.each_map (q:=λ_=>True) (λx _=>by
      have h:=pop_on (frzS (frSB Γ.fs P Γ.q ops) ops.toList σ) x;rw[(frzS_on _ _ σ).1,(frzS_on _ _ σ).2]at h;exact h) ?_)
     exact q60 _
   |false=>
    simp only[cond_false];exact Tr.each_bind' (p:=λy=>y.On σ.b σ.h.b) (λx hx=>hx) (q5p hrun hyld _ _ _ _ ⟨rfl,rfl⟩)
  |seq x y=>
   simp only[exec];refine Tr.each_bind' (λx hx=>?_) (q2x n lam rd x σ);split
   .have:(exec P Γ Λ n lam rd y x.2).Each λy=>y.2.On x.2.b x.2.h.b:=q2x n lam rd y x.2
    rwa [hx.1,hx.2]at this
   .exact hx
  |cond o x y=>
   simp only[exec];split
   .split
    .exact q2x n lam rd x σ
    .exact q2x n lam rd y σ
   .exact Tr.each_map (q:=λ_=>True) (λx _=>pop_on σ x.2) (q60 _)
   .trivial
  |block id x=>
   simp only[exec];exact Tr.each_map (q:=λ_=>True) (λx _=>pop_on σ x.2) (q60 _)
  |loop x=>
   cases rd with
   |some l0=>
    simp only[exec];exact qaf (λσ=>q2x n lam (some l0) x σ) _ σ
   |none=>
    cases hl:lam.bind λf=>Λ f (lkey x)with
    |some L=>
     simp only[exec,hl];exact L.on σ
    |none=>
     simp only[exec,hl];exact qaf (λσ=>q2x n lam none x σ) _ σ
  |rangeFunc g ps asg body=>
   have ih:∀(rd:Option Nat)(c:Code)(σ:St),(exec P Γ Λ n none rd c σ).Each λy=>y.2.On σ.b σ.h.b:=λrd c σ=>q2x n none rd c σ;simp only[exec];split
   .refine q0i ?_ trivial;rename_i f cs _;cases rd with
    |none=>
     refine Tr.each_bind' (p:=λy=>y.2.b=σ.h.b) (λx hx=>?_) (hrun f (.yl ((σ.h.push (.obj (.deferred (some [])))).nx)::cs) ((σ.h.push (.obj (.deferred (some [])))).push (.loop .ready none σ.n σ.lg ps asg body σ.h.nx)));have:=endLoop_on (λc σ=>ih none c σ) ((σ.h.push (.obj (.deferred (some [])))).nx) ⟨σ.n,σ.t,x.2,σ.h.nx::σ.d,σ.b⟩;simp only[hx]at this;exact this
    |some l0=>
     simp only;split
     .rename_i df _;refine Tr.each_bind' (p:=λy=>y.2.b=σ.h.b) (λx hx=>?_) (hrun f (.yl σ.h.nx::cs) (σ.h.push (.loop .ready none σ.n σ.lg ps asg body df)));have:=endLoop_on (λc σ=>ih (some l0) c σ) σ.h.nx ⟨σ.n,σ.t,x.2,σ.d,σ.b⟩;simp only[hx]at this;exact this
     .trivial
   .trivial
  |scope x=>
   simp only[exec];refine Tr.each_bind' (λx hx=>?_) (q2x n lam rd x σ);split
   .trivial
   .exact hx
  |refuse _=>trivial
theorem exec_ok{Γ:Gam}{Λ:Lam}(hΓ:∀f g,Γ.g f=some g->FnOk P f g)(hΛ:∀f k L,Λ f k=some L->∀b∈q00 P f,lkey b=k->q04 P b L.g):∀(n:Nat)(lam rd:Option Nat)(c:Code),
  (∀f,lam=some f->∀b∈q0s c,b∈q00 P f)->ExOk P rd c (exec P Γ Λ n lam rd c)
 |0,lam,rd,c,_=>λM w0 w ρ σ a K _ hK _=>hK.elim
 |n+1,lam,rd,c,hsub=>by
  intro M w0 w ρ σ a K hrd hK hm
  have hrun:∀f,FnOk P f (match Γ.g f with|some g=>g|none=>fnRun P (exec P Γ Λ n (some f) none) f):=by
   intro f;cases hg:Γ.g f with
   |some g=>exact hΓ f g hg
   |none=>
    refine fnRun_ok λM w0 w ρ fn c σ a K hfn hc hk hm=>?_
    have:=exec_ok hΓ hΛ n (some f) none c (by
     intro f' hf' b hb;injection hf' with hf'
     subst hf';simp only[q00,hfn,hc];exact hb) M w0 w ρ σ a K (by intro l hl;cases hl) hk hm
    exact this
  have hyld:YldOk P (q6w λl=>exec P Γ Λ n none (some l)):=by
   refine yldRun_ok λl c M w0 w ρ σ a K hl hk hm=>?_;exact exec_ok hΓ hΛ n none (some l) c (by intro f hf;cases hf) M w0 w ρ σ a K (by intro l' hl';injection hl' with hl';rw[<-hl'];exact hl) hk hm
  have hrb:∀f,ConB (match Γ.g f with|some g=>g|none=>fnRun P (exec P Γ Λ n (some f) none) f):=λf=>by
   cases hg:Γ.g f with
   |some g=>exact Γ.hb f g hg
   |none=>exact fnRun_b (λc σ=>q2x n _ _ c σ) f
  have hyb:∀l,ConB (q6w (λl=>exec P Γ Λ n none (some l)) l):=yldRun_b λl c σ=>q2x n _ _ c σ;have ih:=λlam rd c hs=>exec_ok hΓ hΛ n lam rd c hs;have hsame:PostX M w0 ρ σ.h.nx K=PostX M w0 ρ σ.h.nx K:=rfl;simp only[exec]at hK;cases c with
  |skip=>exact wpIn_skip ⟨.normal,σ,ρ,rfl,hK,Nat.le_refl _,Agree.refl _ _,hm⟩
  |label l=>exact wpIn_label ⟨.normal,σ,ρ,rfl,hK,Nat.le_refl _,Agree.refl _ _,hm⟩
  |ret=>exact wpIn_ret ⟨.ret,σ,ρ,rfl,hK,Nat.le_refl _,Agree.refl _ _,hm⟩
  |exit id=>exact wpIn_exit ⟨.exit id,σ,ρ,rfl,hK,Nat.le_refl _,Agree.refl _ _,hm⟩
  |goto l=>exact wpIn_goto ⟨.goto l,σ,ρ,rfl,hK,Nat.le_refl _,Agree.refl _ _,hm⟩
  |region id ops d=>
   dsimp only at hK;cases hzf:Γ.zf lam id with
   |true=>
    rw[hzf]at hK;cases d with
    |true=>exact hK.elim
    |false=>
    simp only[cond_true,cond_false]at hK;have hon:(q9f P _ (q6w λl=>exec P Γ Λ n none (some l)) ops ops.toList σ.base).Each (St.On (σ.t++σ.b) (σ.h.l++σ.h.b)):=q5p hrb hyb _ _ _ _ ⟨rfl,rfl⟩;have hK2:=Tr.each_holds hon (q3k (q5v _ _ _ _) hon (Tr.holds_map (Tr.holds_bind hK)));refine wpIn_region ?_
    have:=ops_ok (P:=P) (M:=M) (w0:=w0) hrun hyld hrb hyb (r:=rd.map λl=>(ρ l).blk) (Q:=PostX M w0 ρ σ.h.nx K) ops.toList 0 ρ σ.base a w _ (by simp) hK2 hm.base
     (λσ' ρ' a' w' h1 h2 h3 h4=>by
      obtain⟨⟨j,hw,hk⟩,hx⟩:=h1;have hjo:=hw.on;rw[hx.1,hx.2]at hjo;exact⟨.normal,σ.pop j,ρ',rfl,hk,Nat.le_trans h2 hw.nx,h3,(hw.mod _ _ _ _ _ h4).pop hjo⟩)
    rw[List.range_eq_range',<-Array.length_toList];exact this
   |false=>
   rw[hzf]at hK;simp only[cond_false]at hK;cases d with
   |true=>
    simp only[cond_true]at hK;cases hdr:q9y P Γ.q (tqOf P Γ.q ops) (frOf P Γ.q ops) ops with
    |false=>
    rw[hdr]at hK;simp only[cond_false]at hK;obtain⟨hc,hK⟩:=q08 hK;simp only[Bool.and_eq_true]at hc;obtain⟨hmix,hback⟩:=hc;obtain⟨ρ1,hlc1,hag1,hm1,hnx1,hb1,hhb1⟩:=frzS_ok (frSB Γ.fs P Γ.q ops) ops.toList hm
    have hfw:Fw (rd.map λl=>(ρ l).blk)=Fw (rd.map λl=>(ρ1 l).blk):=by
     have:(λl=>(ρ1 l).blk)=λl=>(ρ l).blk:=by funext l;show(ρ1.lc l).blk=_;rw[hlc1]
     rw[this]
    rw[hfw];generalize frzS (frSB Γ.fs P Γ.q ops) ops.toList σ=σ1 at hK hm1 hnx1 hb1 hhb1;refine wpIn_region_draw λt=>?_;refine split_ok (λops' hb' hp' hl L hL=>?_) 14 ops hK _ (lin_all (back_lt hback) hmix t);have hon:(q56 P Γ.q false (frS Γ.fs P Γ.q ops) _ (q6w λl=>exec P Γ Λ n none (some l)) ops' ops'.toList σ1.base).Each (St.On (σ1.t++σ1.b) (σ1.h.l++σ1.h.b)):=q83 hrb hyb _ _ _ _ ⟨rfl,rfl⟩;have hK2:=Tr.each_holds hon (q3k (q5v _ _ _ _) hon (Tr.holds_map (Tr.holds_bind hl)));refine draw_lin (P:=P) (M:=M) (w0:=w0) hrun hyld (λf hq=>?_) (λf hq=>?_) hb' hp' hK2 hm1.base (λσ' ρ' a' w' h1 h2 h3 h4=>?_) hL ⟨rfl,rfl,rfl,Nat.le_refl _,λ_ _=>rfl⟩
    .obtain⟨c,hc,hall,_⟩:=Γ.hq f hq;rw[hc];exact hall
    .obtain⟨c,hc,_,hind⟩:=Γ.hq f hq;rw[hc];exact hind
    .obtain⟨⟨j,hw,hk⟩,hx⟩:=h1;have hjo:=hw.on;rw[hx.1,hx.2]at hjo;have h2':σ1.h.nx<=σ'.h.nx:=h2;exact⟨.normal,σ1.pop j,ρ',rfl,hk,by rw[<-hnx1];exact Nat.le_trans h2' hw.nx,hag1.trans (Nat.le_of_eq hnx1.symm:σ.h.nx<=σ1.h.nx) h3,(hw.mod _ _ _ _ _ h4).pop hjo⟩
    |true=>
    rw[hdr]at hK;simp only[cond_true]at hK;have hK1:=hK;obtain⟨ρ1,hlc1,hag1,hm1,hnx1,hb1,hhb1⟩:=frzS_ok (frB P Γ.q ops) ops.toList hm
    have hfw:Fw (rd.map λl=>(ρ l).blk)=Fw (rd.map λl=>(ρ1 l).blk):=by
     have:(λl=>(ρ1 l).blk)=λl=>(ρ l).blk:=by funext l;show(ρ1.lc l).blk=_;rw[hlc1]
     rw[this]
    rw[hfw];generalize frzS (frB P Γ.q ops) ops.toList σ=σ1 at hK1 hm1 hnx1 hb1 hhb1;have hon:(q56 P Γ.q (tqOf P Γ.q ops) (frOf P Γ.q ops) _ (q6w λl=>exec P Γ Λ n none (some l)) ops ops.toList σ1.base).Each (St.On (σ1.t++σ1.b) (σ1.h.l++σ1.h.b)):=q83 hrb hyb _ _ _ _ ⟨rfl,rfl⟩;have hK2:=Tr.each_holds hon (q3k (q5v _ _ _ _) hon (Tr.holds_map (Tr.holds_bind hK1)));refine draw_ok (P:=P) (M:=M) (w0:=w0) hrun hyld (λf hq=>?_) (λf hq=>?_) hdr hK2 hm1.base (λσ' ρ' a' w' h1 h2 h3 h4=>?_)
    .skip
     obtain⟨c,hc,hall,_⟩:=Γ.hq f hq;rw[hc];exact hall
    .obtain⟨c,hc,_,hind⟩:=Γ.hq f hq;rw[hc];exact hind
    .obtain⟨⟨j,hw,hk⟩,hx⟩:=h1;have hjo:=hw.on;rw[hx.1,hx.2]at hjo;have h2':σ1.h.nx<=σ'.h.nx:=h2;exact⟨.normal,σ1.pop j,ρ',rfl,hk,by rw[<-hnx1];exact Nat.le_trans h2' hw.nx,hag1.trans (Nat.le_of_eq hnx1.symm:σ.h.nx<=σ1.h.nx) h3,(hw.mod _ _ _ _ _ h4).pop hjo⟩
   |false=>
    simp only[cond_false]at hK;refine wpIn_region ?_
    have:=ops_ok (P:=P) (M:=M) (w0:=w0) hrun hyld hrb hyb (r:=rd.map λl=>(ρ l).blk) (Q:=PostX M w0 ρ σ.h.nx K) ops.toList 0 ρ σ a w _ (by simp) (Tr.holds_bind hK) hm
     (λσ' ρ' a' w' h1 h2 h3 h4=>⟨.normal,σ',ρ',rfl,h1,h2,h3,h4⟩)
    rw[List.range_eq_range',<-Array.length_toList];exact this
  |seq x y=>
   refine wpIn_seq (wpIn_mono (ih lam rd x (λf hf b hb=>hsub f hf b (by simp[q0s,hb])) M w0 w ρ σ a _ hrd (Tr.holds_bind hK) hm) ?_);rintro e' a' w' ⟨e,σ',ρ',rfl,hk,hn,ha,hm'⟩;cases e with
   |normal=>
    have h1:=ih lam rd y (λf hf b hb=>hsub f hf b (by simp[q0s,hb])) M w0 w' ρ' σ' a' K (λl hl=>Nat.lt_of_lt_of_le (hrd l hl) hn) hk hm';rw[fw_agree hrd ha]at h1;exact wpIn_mono h1 λx a w h=>h.chain hn ha
   |exit id=>exact⟨_,σ',ρ',rfl,hk,hn,ha,hm'⟩
   |goto id=>exact⟨_,σ',ρ',rfl,hk,hn,ha,hm'⟩
   |ret=>exact⟨_,σ',ρ',rfl,hk,hn,ha,hm'⟩
  |cond o x y=>
   have hx:=λK=>ih lam rd x (λf hf b hb=>hsub f hf b (by simp[q0s,hb])) M w0 w ρ σ a K hrd;have hy:=λK=>ih lam rd y (λf hf b hb=>hsub f hf b (by simp[q0s,hb])) M w0 w ρ σ a K hrd;have hx':=λK=>ih lam rd x (λf hf b hb=>hsub f hf b (by simp[q0s,hb])) M w0 w ρ σ.base a K hrd;have hy':=λK=>ih lam rd y (λf hf b hb=>hsub f hf b (by simp[q0s,hb])) M w0 w ρ σ.base a K hrd;cases hb:(σ.ev o).bool? with
   |none=>simp only[hb]at hK;exact hK.elim
   |some cz=>
    obtain⟨cl,z⟩:=cz;have he:=SV.bool_fit hb (hm.ev o);simp only[hb]at hK;cases cl with
    |true=>
     cases z with
     |true=>exact wpIn_cond_true he (hx _ hK hm)
     |false=>exact wpIn_cond_false he (hy _ hK hm)
    |false=>
     have hox:=q2x (P:=P) (Γ:=Γ) (Λ:=Λ) n lam rd x σ.base;have hoy:=q2x (P:=P) (Γ:=Γ) (Λ:=Λ) n lam rd y σ.base;have h12:=mergeY_holds (joinX_ok σ.base.b σ.base.h.b σ.h.nx) hox hoy (Tr.holds_map hK)
     have fin:∀{x a w},PostX M w0 ρ σ.base.h.nx (λx=>(∃j,WkX x j/\K (j.1,σ.pop j.2))/\x.2.On σ.base.b σ.base.h.b) x a w->PostX M w0 ρ σ.h.nx K x a w:=by
      rintro x a w ⟨e,σ',ρ',rfl,⟨⟨⟨e',j⟩,⟨he,hw⟩,hk⟩,ho⟩,hn,ha,hm'⟩;simp only at he hw hk ho;subst he;have hjo:=hw.on;rw[ho.1,ho.2]at hjo;exact⟨e,σ.pop j,ρ',rfl,hk,Nat.le_trans hn hw.nx,ha,(hw.mod _ _ _ _ _ hm').pop hjo⟩
     cases z with
     |true=>exact wpIn_cond_true he (wpIn_mono (hx' _ (Tr.each_holds hox (h12.1 rfl)) hm.base) λx a w h=>fin h)
     |false=>exact wpIn_cond_false he (wpIn_mono (hy' _ (Tr.each_holds hoy (h12.2 rfl)) hm.base) λx a w h=>fin h)
  |block id x=>
   have hox:=q2x (P:=P) (Γ:=Γ) (Λ:=Λ) n lam rd x σ.base;have hox':((exec P Γ Λ n lam rd x σ.base).map (q6l id)).Each λy=>y.2.On σ.base.b σ.base.h.b:=Tr.each_map (f:=q6l id) (λx hx=>unExit_on hx) hox;have hK1:=Tr.each_holds hox (Tr.holds_map (q3k (joinX_ok σ.base.b σ.base.h.b σ.h.nx) hox' (Tr.holds_map hK)));refine wpIn_block (wpIn_mono (ih lam rd x (λf hf b hb=>hsub f hf b (by simpa [q0s]using hb)) M w0 w ρ σ.base a _ hrd hK1 hm.base) ?_);rintro e' a' w' ⟨e,σ',ρ',rfl,⟨⟨⟨e2,j⟩,⟨he,hw⟩,hk⟩,ho⟩,hn,ha,hm'⟩;simp only at he hw hk ho
   have main:∀e2,e2=(q6l id (e,σ')).1->Wk σ' j->K (e2,σ.pop j)->PostX M w0 ρ σ.h.nx K (Ex.ex e2) a' w':=by
    rintro e2 rfl hw hk;have hjo:=hw.on;rw[ho.1,ho.2]at hjo;exact⟨_,σ.pop j,ρ',rfl,hk,Nat.le_trans hn hw.nx,ha,(hw.mod _ _ _ _ _ hm').pop hjo⟩
   have hw2:Wk σ' j:=by
    have:(q6l id (e,σ')).2=σ':=by
     unfold q6l;split
     .rw[bif_beq];split<;>rfl
     .rfl
    rwa [this]at hw
   have key:=main e2 he.symm hw2 hk;cases e with
   |exit i=>
    simp only[Ex.ex,Exit.inBlock];simp only[q6l]at he;rw[bif_beq]at he;by_cases hj:i=id
    .rw[if_pos hj]at he ⊢;subst he;exact key
    .rw[if_neg hj]at he ⊢;subst he;exact key
   |normal=>simp only[q6l]at he;subst he;exact key
   |goto i=>simp only[q6l]at he;subst he;exact key
   |ret=>simp only[q6l]at he;subst he;exact key
  |loop x=>
   have hgo:∀m:Nat,(qag (exec P Γ Λ n lam rd x) m σ).Holds K->(Code.loop x).wpIn (Fw (rd.map λl=>(ρ l).blk)) 0 P (PostX M w0 ρ σ.h.nx K) a w:=λm hK=>
    wpIn_loop_rounds _ (loopRun_ok (ih lam rd x (λf hf b hb=>hsub f hf b (by simp[q0s,hb]))) m M w0 w ρ σ a K hrd hK hm)
   cases rd with
   |some l0=>exact hgo _ hK
   |none=>
    cases hl:lam.bind λf=>Λ f (lkey x)with
    |some L=>
     simp only[hl]at hK;cases lam with
     |none=>simp at hl
     |some f=>
      simp only[Option.bind_some]at hl;exact hΛ f _ L hl x (hsub f rfl x (by simp[q0s])) rfl M w0 w ρ σ a K hK hm
    |none=>
     simp only[hl]at hK;exact hgo _ hK
  |rangeFunc g ps asg body=>
   cases hev:σ.ev g with
   |fn f cs=>
    simp only[hev]at hK;cases hcl:callable P f with
    |false=>rw[hcl]at hK;exact hK.elim
    |true=>
     rw[hcl]at hK;simp only[cond_true]at hK;cases rd with
     |none=>
      simp only at hK;have hm1:=hm.hp.push (so:=.obj (.deferred (some []))) (o:=.deferred (some [])) (c:=0) ⟨rfl,rfl,rfl⟩;have hsl:=hm.tm.mono (Nat.le_succ _) (q0r ρ σ.h.nx ⟨w.heap.size,0,0,false⟩)
      have hm2:∀fn,HM M w0 _ _ _:=λfn=>hm1.push (so:=.loop .ready none σ.n σ.lg ps asg body σ.h.nx) (o:=.loop ⟨.ready,none,fn,a.tmps,ps,asg,body,w.heap.size⟩) (c:=0)
       ⟨rfl,Nat.lt_succ_self _,fn,a.tmps,by simp[upd],hsl⟩
      refine range_ok (ρ2:=upd (upd ρ σ.h.nx ⟨w.heap.size,0,0,false⟩) (σ.h.push (.obj (.deferred (some [])))).nx ⟨(w.alloc (.deferred (some []))).heap.size,0,0,false⟩)
       (d:=σ.h.nx::σ.d) (mark:=[{ target:=.collected w.heap.size,args:=#[]}]) (hrun f) (λc=>ih none none c (by intro f hf;cases hf)) hrd hm hev hcl ?_ ?_ (Nat.lt_succ_self _) (λfn=>?_) ?_ ?_ hK
      .simp[SH.push];omega
      .exact(q0r _ _ _).trans (Nat.le_succ _) (q0r _ _ _)
      .refine⟨(w.alloc (.deferred (some []))).alloc (.loop ⟨.ready,none,fn,a.tmps,ps,asg,body,w.heap.size⟩),?_,hm2 fn⟩;simp[Instr.enterLoop,upd,SH.push]
      .have h1:=(hm.df.mono (n:=σ.h.nx) ((q0r ρ σ.h.nx ⟨w.heap.size,0,0,false⟩).trans (Nat.le_succ _) (q0r _ (σ.h.push (.obj (.deferred (some [])))).nx ⟨(w.alloc (.deferred (some []))).heap.size,0,0,false⟩)) hm.dl).cons σ.h.nx;have e:∀(ρ':Rh),(ρ' σ.h.nx).blk=w.heap.size->markOf ρ' σ.h.nx={ target:=.collected w.heap.size,args:=#[]}:=λρ' hb=>by simp only[markOf,hb]
       rw[e _ (by simp[upd,SH.push])]at h1;exact h1
      .intro i hi;rcases List.mem_cons.1 hi with rfl|hi
       .simp[SH.push];omega
       .have:=hm.dl i hi;simp[SH.push];omega
     |some l0=>
      simp only at hK;split at hK
      .rename_i st0 pd0 n0 t0 ps0 asg0 body0 df hg0;obtain⟨hnl0,hdf0,f0,tm0,hob0,hs0⟩:=q7w hm.hp hg0
       have hm2:∀fn,HM M w0 _ _ _:=λfn=>hm.hp.push (so:=.loop .ready none σ.n σ.lg ps asg body df) (o:=.loop ⟨.ready,none,fn,a.tmps,ps,asg,body,(ρ df).blk⟩) (c:=0)
        ⟨rfl,hdf0,fn,a.tmps,rfl,hm.tm⟩
       refine range_ok (ρ2:=upd ρ σ.h.nx ⟨w.heap.size,0,0,false⟩) (d:=σ.d) (mark:=[]) (hrun f) (λc=>ih none (some l0) c (by intro f hf;cases hf)) hrd hm hev hcl (Nat.le_succ _) (q0r _ _ _) (Nat.lt_succ_self _) (λfn=>?_) ?_ ?_ hK
       .refine⟨w.alloc (.loop ⟨.ready,none,fn,a.tmps,ps,asg,body,(ρ df).blk⟩),?_,hm2 fn⟩;simp[Instr.enterLoop,Instr.getLoop,q3w hob0 (by simp),upd]
       .rw[List.nil_append];exact hm.df.mono (q0r _ _ _) hm.dl
       .intro i hi;have:=hm.dl i hi;simp[SH.push];omega
      .exact hK.elim
   |_=>simp only[hev]at hK;exact hK.elim
  |scope x=>
   refine wpIn_scope (wpIn_mono (ih lam rd x (λf hf b hb=>hsub f hf b (by simpa [q0s]using hb)) M w0 w ρ σ a _ hrd (Tr.holds_bind hK) hm) ?_);rintro e' a' w' ⟨e,σ',ρ',rfl,hk,hn,ha,hm'⟩;cases e with
   |normal=>exact⟨_,σ',ρ',rfl,hk,hn,ha,hm'⟩
   |exit id=>exact⟨_,σ',ρ',rfl,hk,hn,ha,hm'⟩
   |goto id=>exact hk.elim
   |ret=>exact⟨_,σ',ρ',rfl,hk,hn,ha,hm'⟩
  |refuse _=>exact hK.elim
end
end Go.Sx
