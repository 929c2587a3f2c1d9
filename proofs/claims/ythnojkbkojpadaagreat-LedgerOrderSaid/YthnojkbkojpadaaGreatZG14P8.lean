/- Ledger: batches: the loops' contracts. -/
import Derived.Test.YthnojkbkojpadaaGreatZG13db5ca4
import Derived.Test.YthnojkbkojpadaaGreatZG088b3fbb
import Derived.Test.YthnojkbkojpadaaGreatZG1211c2fd
import Derived.Test.YthnojkbkojpadaaGreatZG0935bc25
set_option maxRecDepth 100000
set_option linter.unusedVariables false
set_option linter.unusedSimpArgs false
set_option linter.constructorNameAsVariable false
set_option linter.all false

namespace Go.Proofs.YthnojkbkojpadaaGreat
noncomputable section
open Go.RowKit Go.Sx Go.Lp
def qq9(_:q91)(b:qcm)(_:Int)(v:q00):Ex×qcm:=(.normal,(),b.2.1++[v],.ready,none)
def zdb(c:q91)(b:qcm)(i:Int):Prop:=b.2.2=(LoopState.ready,(none:Option Code))/\c.1.length<=KS/\(List.length b.2.1:Int)<=i
abbrev zpm(g:q5x):List Prop:=ixI (λc:q91=>c.2) (λc=>c.1) zdb (zda g)
abbrev qsx(g:q5x):Nat:=ixM (λc:q91=>c.2) (zda g)
theorem zwi:ixP qq9 (λc:q91=>c.1) zdb:=by
 rintro⟨xs,n⟩ ⟨⟨⟩,out,f⟩ i a ⟨h1,h3,h4⟩ _ _;refine⟨rfl,h3,?_⟩;have h4:(List.length out:Int)<=(i:Int):=h4;show((out++[a]).length:Int)<=(i:Int)+1;rw[List.length_append];simp only[List.length_cons,List.length_nil];omega
abbrev qvl(g:q5x):Ex×q5x:=qxw g.1 g.2.1 g.2.2.1 g.2.2.2.1 g.2.2.2.2.1
theorem zhx(d:Int×q91×qcm)(hi:allP (ixI (λc:q91=>c.2) (λc=>c.1) zdb d)):qvl (zd9 d)=((ixF 0 (λc:q91=>c.2) (λc=>c.1) eC.dflt qq9 d).1,zd9 (ixF 0 (λc:q91=>c.2) (λc=>c.1) eC.dflt qq9 d).2):=by
 obtain⟨hb,_⟩:=(hi _ (List.mem_cons_self ..)).2.2.2.2;obtain⟨i,⟨xs,n⟩,⟨⟨⟩,out,f⟩⟩:=d;have hb:f=(LoopState.ready,(none:Option Code)):=hb;subst hb;show qxw xs n i () out=_;unfold qxw ixF qq9;simp only[El.ag_eq,qun];cases decide (i<n)<;>rfl
theorem zwf:∀b∈q03 Tryz.prog 85,lkey b=1->q06 Tryz.prog b (zpo zpm qsx).g:=by
 refine zd8 zpm qsx (λg hi=>?_) (λg hi=>?_) (q0e (λ_=>rfl) (λ_=>rfl) zhx zwi)
 .obtain⟨xs,n,i,⟨⟩,out,⟨st,pd⟩⟩:=g;obtain⟨h1,h2,h3,h4,h5,h7,h8⟩:=hi _ (List.mem_cons_self ..);have h1:n=(xs.length:Int):=h1;have h3:0<=i:=h3;have h7:xs.length<=KS:=h7;have h8:(List.length out:Int)<=i:=h8;have h4:i<=(xs.length:Int):=h4;unfold KS at h7;show qn8 xs n i () out;unfold qn8;simp only[El.okL_eq,qt2];clear hi;unfold maxLen;refine⟨λhlt=>?_,λ_=>?_⟩
  .have hr:=rngP i n _ h1 h3 hlt
   repeat' (first|exact hr|exact rfl|apply And.intro|intro _)
   all_goals (first|trivial|omega)
  .repeat' (first|exact rfl|apply And.intro|intro _)
   all_goals (first|trivial|omega)
 .obtain⟨xs,n,i,⟨⟩,out,⟨st,pd⟩⟩:=g;have h5:=(hi _ (List.mem_cons_self ..)).2.2.2.2.1;have h5:(st,pd)=(LoopState.ready,(none:Option Code)):=h5;cases h5;rfl
theorem zpk(xs:List q00)(h:xs.length<=KS):q07 qvl qsx (xs,(xs.length:Int),0,(),[],(.ready,none))=(.exit 0,xs,(xs.length:Int),(xs.length:Int),(),xs,(.ready,none)):=by
 have hm:xs.length<=maxLen:=by unfold KS at h;unfold maxLen;omega
 have hr:q07 qvl qsx (xs,(xs.length:Int),0,(),[],(.ready,none))=_:=q0h (φ:=zda) (ψ:=zd9) (λ_=>rfl) (λ_=>rfl) zhx zwi (xs,(xs.length:Int)) ((),[],.ready,none) rfl hm ⟨rfl,h,by show(0:Int)<=0;omega⟩
 have hf:∀(l b:List q00),l.foldl (λ(b:qcm)(v:q00)=>(((),b.2.1++[v],LoopState.ready,(none:Option Code)):qcm)) ((),b,LoopState.ready,(none:Option Code))=((),b++l,LoopState.ready,none):=by
  intro l
  induction l with
  |nil=>intro b;simp
  |cons a l ih=>intro b;rw[List.foldl_cons,ih];simp
 have hs:=scan_fold (x:=0) (st:=qq9 (xs,(xs.length:Int))) (f:=λ(b:qcm)(v:q00)=>((),b.2.1++[v],LoopState.ready,(none:Option Code))) (λ_ _ _=>rfl) xs 0 ((),[],LoopState.ready,none);rw[hf]at hs;rw[hr];show((scan 0 (qq9 (xs,(xs.length:Int))) 0 xs ((),[],.ready,none)).1,zd9 ((scan 0 (qq9 (xs,(xs.length:Int))) 0 xs ((),[],.ready,none)).2.1,(xs,(xs.length:Int)),(scan 0 (qq9 (xs,(xs.length:Int))) 0 xs ((),[],.ready,none)).2.2))=_;rw[hs,Int.zero_add];rfl
def thnK(k:Int)(v:List q00):Int:=IntKind.i64.wrap (k+List.foldl (λa(x:Bool×IntKind×Int)=>bif false then if x.2.2>a then x.2.2 else a else if x.2.2<a then x.2.2 else a) (v.length:Int) [(true,IntKind.i64,(1000:Int))])
def qw1(_:q85)(b:qij)(_:Int)(v:List q00):Ex×qij:=(.normal,thnK b v)
def z7w(_:q85)(_:qij)(_:Int):Prop:=True
abbrev zj2(g:q86):List Prop:=ixI (λc:q85=>c.2) (λc=>c.1) z7w (z7v g)
abbrev qw3(g:q86):Nat:=ixM (λc:q85=>c.2) (z7v g)
theorem zr7:ixP qw1 (λc:q85=>c.1) z7w:=λ_ _ _ _ h _ _=>h
abbrev qz0(g:q86):Ex×q86:=qw2 g.1 g.2.1 g.2.2.1 g.2.2.2
theorem zed(d:Int×q85×qij)(_:allP (ixI (λc:q85=>c.2) (λc=>c.1) z7w d)):qz0 (zj1 d)=((ixF 0 (λc:q85=>c.2) (λc=>c.1) eLC.dflt qw1 d).1,zj1 (ixF 0 (λc:q85=>c.2) (λc=>c.1) eLC.dflt qw1 d).2):=by
 obtain⟨i,⟨xs,n⟩,k⟩:=d;show qw2 xs n i k=_;unfold qw2 ixF qw1 thnK;simp only[El.ag_eq];cases decide (i<n)<;>rfl
theorem zr5:∀b∈q03 Tryz.prog 39,lkey b=3->q06 Tryz.prog b (zj3 zj2 qw3).g:=by
 refine z7u zj2 qw3 (λg hi=>?_) (q0e (λ_=>rfl) (λ_=>rfl) zed zr7);obtain⟨xs,n,i,k⟩:=g;obtain⟨h1,h2,h3,h4,h5⟩:=hi _ (List.mem_cons_self ..);have h1:n=(xs.length:Int):=h1;have h3:0<=i:=h3;show ql9 xs n i k;unfold ql9;simp only[El.okL_eq];exact⟨λhlt=>⟨rngP i n _ h1 h3 hlt,trivial⟩,λ_=>trivial⟩
def totL(xs:LLC):Nat:=(xs.map List.length).sum
theorem q6e{xs:LLC}{i:Nat}{v:List q00}(h:xs[i]?=some v):totL (xs.drop i)=v.length+totL (xs.drop (i+1)):=by
 obtain⟨hi,rfl⟩:=List.getElem?_eq_some_iff.1 h;unfold totL;rw[List.drop_eq_getElem_cons hi,List.map_cons,List.sum_cons]
def qy3(_:q97)(b:qkx)(_:Int)(v:List q00):Ex×qkx:=(.normal,b+(v.length:Int))
def zdo(c:q97)(b:qkx)(i:Int):Prop:=0<=b/\b+(totL (c.1.drop i.toNat):Int)<=1000000
abbrev zq8(g:q98):List Prop:=ixI (λc:q97=>c.2) (λc=>c.1) zdo (zdn g)
abbrev qy5(g:q98):Nat:=ixM (λc:q97=>c.2) (zdn g)
theorem zwv:ixP qy3 (λc:q97=>c.1) zdo:=by
 rintro⟨xs,n⟩ b i v ⟨h1,h2⟩ hv _;have hv:xs[i]?=some v:=hv;have h2:@LE.le Int _ ((b:Int)+(totL (xs.drop i):Int)) 1000000:=h2;rw[q6e hv]at h2;have h1:@LE.le Int _ 0 b:=h1;refine⟨?_,?_⟩
 .show @LE.le Int _ 0 ((b:Int)+(v.length:Int));omega
 .show @LE.le Int _ ((b:Int)+(v.length:Int)+(totL (xs.drop (i+1)):Int)) 1000000;omega
abbrev z6j(g:q98):Ex×q98:=qy4 g.1 g.2.1 g.2.2.1 g.2.2.2
theorem zi9{xs:LLC}{i:Int}{k:Int}(h3:0<=i)(hlt:i<(xs.length:Int))(h5:0<=k)(h6:k+(totL (xs.drop i.toNat):Int)<=1000000):IntKind.i64.wrap (k+((xs.getD i.toNat eLC.dflt).length:Int))=k+((xs.getD i.toNat eLC.dflt).length:Int)/\0<=k+((xs.getD i.toNat eLC.dflt).length:Int):=by
 have hl:i.toNat<xs.length:=by omega
 have hg:xs[i.toNat]?=some (xs.getD i.toNat eLC.dflt):=by
  rw[List.getD_eq_getElem?_getD,List.getElem?_eq_getElem hl];rfl
 have ht:=q6e hg;rw[ht]at h6;generalize (xs.getD i.toNat eLC.dflt).length=m at h6 ⊢;exact⟨wr (by omega),by omega⟩
theorem zia(d:Int×q97×qkx)(hi:allP (ixI (λc:q97=>c.2) (λc=>c.1) zdo d)):z6j (zq7 d)=((ixF 0 (λc:q97=>c.2) (λc=>c.1) eLC.dflt qy3 d).1,zq7 (ixF 0 (λc:q97=>c.2) (λc=>c.1) eLC.dflt qy3 d).2):=by
 obtain⟨i,⟨xs,n⟩,k⟩:=d;obtain⟨h1,h2,h3,h4,h5,h6⟩:=hi _ (List.mem_cons_self ..);have h1:n=(xs.length:Int):=h1;have h3:0<=i:=h3;show qy4 xs n i k=_;unfold qy4 ixF qy3;simp only[El.ag_eq];by_cases hlt:i<n
 .obtain⟨e1,e2⟩:=zi9 (xs:=xs) (k:=k) h3 (by omega) h5 h6;simp only[hlt,decide_true,cond_true];rw[e1,decide_eq_false (by omega)];rfl
 .simp only[hlt,decide_false,cond_false];rfl
theorem zwt:∀b∈q03 Tryz.prog 41,lkey b=3->q06 Tryz.prog b (zq9 zq8 qy5).g:=by
 refine zdm zq8 qy5 (λg hi=>?_) (q0e (λ_=>rfl) (λ_=>rfl) zia zwv);obtain⟨xs,n,i,k⟩:=g;obtain⟨h1,h2,h3,h4,h5,h6⟩:=hi _ (List.mem_cons_self ..);have h1:n=(xs.length:Int):=h1;have h3:0<=i:=h3;show qnc xs n i k;unfold qnc;simp only[El.okL_eq];refine⟨λhlt=>?_,λ_=>trivial⟩;have hr:=rngP i n _ h1 h3 hlt;obtain⟨e1,e2⟩:=zi9 (xs:=xs) (k:=k) h3 hr.2 h5 h6;rw[e1];exact⟨hr,λh=>absurd (of_decide_eq_true h) (by omega),λ_=>trivial⟩
def qy0(_:q95)(b:qkv)(_:Int)(v:List q00):Ex×qkv:=(.normal,b++v)
def zdl(c:q95)(b:qkv)(i:Int):Prop:=b.length+totL (c.1.drop i.toNat)<=1000000
abbrev zq3(g:q96):List Prop:=ixI (λc:q95=>c.2) (λc=>c.1) zdl (zdk g)
abbrev qy2(g:q96):Nat:=ixM (λc:q95=>c.2) (zdk g)
theorem zwr:ixP qy0 (λc:q95=>c.1) zdl:=by
 rintro⟨xs,n⟩ b i v h2 hv _;have hv:xs[i]?=some v:=hv;have h2:b.length+totL (xs.drop i)<=1000000:=h2;rw[q6e hv]at h2;show(b++v).length+totL (xs.drop (i+1))<=1000000;rw[List.length_append];omega
abbrev z6i(g:q96):Ex×q96:=qy1 g.1 g.2.1 g.2.2.1 g.2.2.2
theorem z1m(o v:List q00):eC.lst (min (o.length+v.length) o.length) (eC.els o)++eC.lst (o.length+v.length-o.length) (eC.els v)=o++v:=by
 rw[Nat.min_eq_right (Nat.le_add_right _ _),Nat.add_sub_cancel_left,El.lst_els,El.lst_els]
theorem zi6(d:Int×q95×qkv)(_:allP (ixI (λc:q95=>c.2) (λc=>c.1) zdl d)):z6i (zq2 d)=((ixF 2 (λc:q95=>c.2) (λc=>c.1) eLC.dflt qy0 d).1,zq2 (ixF 2 (λc:q95=>c.2) (λc=>c.1) eLC.dflt qy0 d).2):=by
 obtain⟨i,⟨xs,n⟩,o⟩:=d;show qy1 xs n i o=_;unfold qy1 ixF qy0;simp only[El.ag_eq,z1m];cases decide (i<n)<;>rfl
theorem zwp:∀b∈q03 Tryz.prog 41,lkey b=11->q06 Tryz.prog b (zq4 zq3 qy2).g:=by
 refine zdj zq3 qy2 (λg hi=>?_) (q0e (λ_=>rfl) (λ_=>rfl) zi6 zwr);obtain⟨xs,n,i,o⟩:=g;obtain⟨h1,h2,h3,h4,h5⟩:=hi _ (List.mem_cons_self ..);have h1:n=(xs.length:Int):=h1;have h3:0<=i:=h3;have h5:o.length+totL (xs.drop i.toNat)<=1000000:=h5;show qnb xs n i o;unfold qnb;simp only[El.okL_eq,qt2];refine⟨λhlt=>?_,λ_=>⟨trivial,Nat.le_refl _,λ_ _=>trivial⟩⟩;have hr:=rngP i n _ h1 h3 hlt;have hl:i.toNat<xs.length:=by omega
 have hg:xs[i.toNat]?=some (xs.getD i.toNat eLC.dflt):=by
  rw[List.getD_eq_getElem?_getD,List.getElem?_eq_getElem hl];rfl
 rw[q6e hg]at h5;refine⟨hr,⟨Nat.le_refl _,λe _=>eC.one_els _ _,by unfold maxLen;omega,by omega⟩,trivial,Nat.le_refl _,λ_ _=>trivial,λ_ _=>trivial⟩
def qxx(_:q93)(b:qkt)(_:Int)(v:List q00):Ex×qkt:=(.normal,b++v)
def zdi(c:q93)(b:qkt)(i:Int):Prop:=b.length+totL (c.1.drop i.toNat)<=1000000
abbrev zpy(g:q94):List Prop:=ixI (λc:q93=>c.2) (λc=>c.1) zdi (zdh g)
abbrev qxz(g:q94):Nat:=ixM (λc:q93=>c.2) (zdh g)
theorem zwo:ixP qxx (λc:q93=>c.1) zdi:=by
 rintro⟨xs,n⟩ b i v h2 hv _;have hv:xs[i]?=some v:=hv;have h2:b.length+totL (xs.drop i)<=1000000:=h2;rw[q6e hv]at h2;show(b++v).length+totL (xs.drop (i+1))<=1000000;rw[List.length_append];omega
abbrev z6h(g:q94):Ex×q94:=qxy g.1 g.2.1 g.2.2.1 g.2.2.2
theorem zi3(d:Int×q93×qkt)(_:allP (ixI (λc:q93=>c.2) (λc=>c.1) zdi d)):z6h (zpx d)=((ixF 2 (λc:q93=>c.2) (λc=>c.1) eLC.dflt qxx d).1,zpx (ixF 2 (λc:q93=>c.2) (λc=>c.1) eLC.dflt qxx d).2):=by
 obtain⟨i,⟨xs,n⟩,o⟩:=d;show qxy xs n i o=_;unfold qxy ixF qxx;simp only[El.ag_eq,z1m];cases decide (i<n)<;>rfl
theorem zwm:∀b∈q03 Tryz.prog 41,lkey b=11->q06 Tryz.prog b (zpz zpy qxz).g:=by
 refine zdg zpy qxz (λg hi=>?_) (q0e (λ_=>rfl) (λ_=>rfl) zi3 zwo);obtain⟨xs,n,i,o⟩:=g;obtain⟨h1,h2,h3,h4,h5⟩:=hi _ (List.mem_cons_self ..);have h1:n=(xs.length:Int):=h1;have h3:0<=i:=h3;have h5:o.length+totL (xs.drop i.toNat)<=1000000:=h5;show qna xs n i o;unfold qna;simp only[El.okL_eq,qt2];refine⟨λhlt=>?_,λ_=>⟨trivial,Nat.le_refl _,λ_ _=>trivial⟩⟩;have hr:=rngP i n _ h1 h3 hlt;have hl:i.toNat<xs.length:=by omega
 have hg:xs[i.toNat]?=some (xs.getD i.toNat eLC.dflt):=by
  rw[List.getD_eq_getElem?_getD,List.getElem?_eq_getElem hl];rfl
 rw[q6e hg]at h5;refine⟨hr,⟨Nat.le_refl _,λe _=>eC.one_els _ _,by unfold maxLen;omega,by omega⟩,trivial,Nat.le_refl _,λ_ _=>trivial,λ_ _=>trivial⟩
def zlu:LTab Tryz.prog:=(((ltW4.cons 85 1 (zpo zpm qsx) zwf).cons 39 3 (zj3 zj2 qw3) zr5).cons 41 3 (zq9 zq8 qy5) zwt).cons 41 11 (z1x 1 (zpz zpy qxz) (zq4 zq3 qy2)) (λb hb hk=>zqg (zwm b hb hk) (zwp b hb hk))
abbrev qp3:Lam:=zlu.lam
theorem qbt:∀f k L,qp3 f k=some L->∀b∈q03 Tryz.prog f,lkey b=k->q06 Tryz.prog b L.g:=zlu.ok
open Go.RowKit Go.Sx
def qz1(xs:LLC):Ex×
 q86:=
 q07 (λg=>qw2 g.fst g.snd.fst g.snd.snd.fst g.snd.snd.snd) qw3 (eLC.lst (List.foldl (λa x=>bif false then if x.snd.snd>a then x.snd.snd else a else if x.snd.snd<a then x.snd.snd else a) (↑(List.length xs):Int) [(true,IntKind.i64,(40:Int))]).toNat (eLC.els xs),(↑(List.foldl (λa x=>bif false then if x.snd.snd>a then x.snd.snd else a else if x.snd.snd<a then x.snd.snd else a) (↑(List.length xs):Int) [(true,IntKind.i64,(40:Int))]).toNat:Int),(0:Int),(0:Int))
def qhw(xs:LLC):Dv.T q0l:=
 decide ((↑(List.length xs):Int)<=(40:Int))&&decide ((qz1 xs).snd.snd.snd.snd<=(300:Int))
def qes(xs:LLC):Prop:=
 ((0:Int)<=List.foldl (λa x=>bif false then if x.snd.snd>a then x.snd.snd else a else if x.snd.snd<a then x.snd.snd else a) (↑(List.length xs):Int) [(true,IntKind.i64,(40:Int))]/\List.foldl (λa x=>bif false then if x.snd.snd>a then x.snd.snd else a else if x.snd.snd<a then x.snd.snd else a) (↑(List.length xs):Int) [(true,IntKind.i64,(40:Int))]<=(↑(List.length xs):Int))/\(∀(e:Nat),e<(List.foldl (λa x=>bif false then if x.snd.snd>a then x.snd.snd else a else if x.snd.snd<a then x.snd.snd else a) (↑(List.length xs):Int) [(true,IntKind.i64,(40:Int))]).toNat->eLC.Ok (eLC.els xs e))/\Lp.ixJ (λc=>c.snd) (λc=>c.fst) z7w (z7v (eLC.lst (List.foldl (λa x=>bif false then if x.snd.snd>a then x.snd.snd else a else if x.snd.snd<a then x.snd.snd else a) (↑(List.length xs):Int) [(true,IntKind.i64,(40:Int))]).toNat (eLC.els xs),(↑(List.foldl (λa x=>bif false then if x.snd.snd>a then x.snd.snd else a else if x.snd.snd<a then x.snd.snd else a) (↑(List.length xs):Int) [(true,IntKind.i64,(40:Int))]).toNat:Int),(0:Int),(0:Int)))
theorem zj4(pre:DA.T qdo->List Prop)(h:∀g,DA.bd qdo g->(∀p∈pre g,p)->qes g):q09 Tryz.prog 39 qdo q0l (λg=>qhw g) pre:=q0o (Γ:=(MTab.gamz qql [] [])) (Λ:=qp3) (MTab.okz qql [] []) qbt 100 default (λg=>qes g) (λg=>by kernel_rfl) (λg=>by kernel_rfl) h
def q4b(xs:LLC):Ex×
 q98:=
 q07 (λg=>qy4 g.fst g.snd.fst g.snd.snd.fst g.snd.snd.snd) qy5 (eLC.ag xs,(↑(List.length xs):Int),(0:Int),(0:Int))
def qdn(xs:LLC):Ex×
 q94:=
 q07 (λg=>qxy g.fst g.snd.fst g.snd.snd.fst g.snd.snd.snd) qxz (eLC.ag xs,(↑(List.length xs):Int),(0:Int),[])
def qdm(xs:LLC):Ex×
 q96:=
 q07 (λg=>qy1 g.fst g.snd.fst g.snd.snd.fst g.snd.snd.snd) qy2 (eLC.ag xs,(↑(List.length xs):Int),(0:Int),[])
def z6k(xs:LLC):Rv.T (.list eC):=
 bif decide ((q4b xs).snd.snd.snd.snd<(0:Int))then default
 else bif decide (IntKind.i64.wrap ((q4b xs).snd.snd.snd.snd-(0:Int))>(0:Int))then eC.ag (qdn xs).snd.snd.snd.snd else eC.ag (qdm xs).snd.snd.snd.snd
def qcn(xs:LLC):Prop:=
 eLC.okL xs/\Lp.ixJ (λc=>c.snd) (λc=>c.fst) zdo (zdn (eLC.ag xs,(↑(List.length xs):Int),(0:Int),(0:Int)))/\(decide ((q4b xs).snd.snd.snd.snd<(0:Int))=true->False)/\(decide ((q4b xs).snd.snd.snd.snd<(0:Int))=false->(decide (IntKind.i64.wrap ((q4b xs).snd.snd.snd.snd-(0:Int))>(0:Int))=true->((0:Int)<=(0:Int)/\(0:Int)<=(0:Int))/\((0:Int)<IntKind.i64.wrap ((q4b xs).snd.snd.snd.snd-(0:Int))/\IntKind.i64.wrap ((q4b xs).snd.snd.snd.snd-(0:Int))<=(9223372036854775807:Int)/\(IntKind.i64.wrap ((q4b xs).snd.snd.snd.snd-(0:Int))).toNat*Tryz.prog.types[(59:Nat)].bytes<=(140737488355328:Nat))/\((0:Int)<=(0:Int)/\(0:Int)<=(↑(IntKind.i64.wrap ((q4b xs).snd.snd.snd.snd-(0:Int))).toNat:Int))/\eLC.okL xs/\(0:Nat)<=(IntKind.i64.wrap ((q4b xs).snd.snd.snd.snd-(0:Int))).toNat/\(∀(e:Nat),e<(0:Nat)->True)/\Lp.ixJ (λc=>c.snd) (λc=>c.fst) zdi (zdh (eLC.ag xs,(↑(List.length xs):Int),(0:Int),[]))/\(qdn xs).snd.snd.snd.snd.length<=(qdn xs).snd.snd.snd.snd.length/\∀(e:Nat),e<(qdn xs).snd.snd.snd.snd.length->True)/\(decide (IntKind.i64.wrap ((q4b xs).snd.snd.snd.snd-(0:Int))>(0:Int))=false->eLC.okL xs/\Lp.ixJ (λc=>c.snd) (λc=>c.fst) zdl (zdk (eLC.ag xs,(↑(List.length xs):Int),(0:Int),[]))/\(qdm xs).snd.snd.snd.snd.length<=(qdm xs).snd.snd.snd.snd.length/\∀(e:Nat),e<(qdm xs).snd.snd.snd.snd.length->True))
theorem zdp(pre:DA.T qdo->List Prop)(h:∀g,DA.bd qdo g->(∀p∈pre g,p)->qcn g):q09 Tryz.prog 41 qdo (Rv.D (.list eC)) (λg=>z6k g) pre:=q2l (R:=(.list eC)) (Γ:=(MTab.gamz qql [] [])) (Λ:=qp3) (MTab.okz qql [] []) qbt 100 default (λg=>qcn g) (λg=>by kernel_rfl) (λg=>by kernel_rfl) h
def qdj(xs:List q00):Ex×
 q5x:=
 q07 (λg=>qxw g.fst g.snd.fst g.snd.snd.fst g.snd.snd.snd.fst g.snd.snd.snd.snd.fst) qsx (eC.ag xs,(↑xs.length:Int),(0:Int),(),[],LoopState.ready,none)
def z5z(xs:List q00):Rv.T (.list eC):=
 eC.ag (qdj xs).snd.snd.snd.snd.snd.fst
def qck(xs:List q00):Prop:=
 eC.okL xs/\q65 (q1q Tryz.prog (86:Nat) (0:Nat)).snd.fst (q1q Tryz.prog (86:Nat) (0:Nat)).snd.fst/\q65 (q1q Tryz.prog (86:Nat) (0:Nat)).snd.snd (q1q Tryz.prog (86:Nat) (0:Nat)).snd.snd/\Lp.ixJ (λc=>c.snd) (λc=>c.fst) zdb (zda (eC.ag xs,(↑xs.length:Int),(0:Int),(),[],LoopState.ready,none))/\(qdj xs).snd.snd.snd.snd.snd.fst.length<=(qdj xs).snd.snd.snd.snd.snd.fst.length/\∀(e:Nat),e<(qdj xs).snd.snd.snd.snd.snd.fst.length->True
theorem zd3(pre:DA.T z7a->List Prop)(h:∀g,DA.bd z7a g->(∀p∈pre g,p)->qck g):q09 Tryz.prog 43 z7a (Rv.D (.list eC)) (λg=>z5z g) pre:=q2l (R:=(.list eC)) (Γ:=(MTab.gamz qql [] [])) (Λ:=qp3) (MTab.okz qql [] []) qbt 100 default (λg=>qck g) (λg=>by kernel_rfl) (λg=>by kernel_rfl) h
end
end Go.Proofs.YthnojkbkojpadaaGreat

namespace Go.Proofs.YthnojkbkojpadaaGreat
open Go.RowKit Go.Sx Go.Lp
abbrev mnL(a b:Int):Int:=List.foldl (λa(x:Bool×IntKind×Int)=>bif false then if x.2.2>a then x.2.2 else a else if x.2.2<a then x.2.2 else a) a [(true,IntKind.i64,b)]
theorem z1g(a b:Int):mnL a b=min a b:=by
 show(if b<a then b else a)=_;split<;>omega
theorem ziz(xs:LLC)(h:xs.length<=40):(q07 qz0 qw3 (xs,(xs.length:Int),0,0)).2.2.2.2=((xs.map λv=>min v.length 1000).sum:Nat):=by
 have hm:xs.length<=maxLen:=Nat.le_trans h (by decide);have hr:q07 qz0 qw3 (xs,(xs.length:Int),0,(0:Int))=_:=q0h (φ:=z7v) (ψ:=zj1) (λ_=>rfl) (λ_=>rfl) zed zr7 (xs,(xs.length:Int)) (0:Int) rfl hm trivial;have hs:=scan_fold (x:=0) (st:=qw1 (xs,(xs.length:Int))) (f:=λ(b:Int)(v:List q00)=>thnK b v) (λ_ _ _=>rfl) xs 0 (0:Int)
 have hf:∀(l:LLC)(k:Int),0<=k->k+1000*(l.length:Int)<=1000000->l.foldl (λ(b:Int)(v:List q00)=>thnK b v) k=k+(((l.map λv=>min v.length 1000).sum:Nat):Int):=by
  intro l
  induction l with
  |nil=>intro k _ _;simp
  |cons a l ih=>
   intro k hk hb;rw[List.length_cons]at hb
   have e:thnK k a=k+(min a.length 1000:Nat):=by
    show IntKind.i64.wrap (k+mnL (a.length:Int) 1000)=_;rw[z1g,show min (a.length:Int) 1000=((min a.length 1000:Nat):Int) by omega];exact wr (by omega)
   rw[List.foldl_cons,ih _ (by rw[e];omega) (by rw[e];omega),e,List.map_cons,List.sum_cons];generalize (l.map λv=>min v.length 1000).sum=z;omega
 rw[hf xs 0 (Int.le_refl _) (by omega)]at hs;rw[hr];show(scan 0 (qw1 (xs,(xs.length:Int))) 0 xs (0:Int)).2.2=_;rw[hs];exact Int.zero_add _
theorem qza:∀(xs:LLC),(xs.map λv=>min v.length 1000).sum<=300->totL xs<=300
 | [],_=>Nat.zero_le _
 |a::l,h=>by
  rw[List.map_cons,List.sum_cons]at h;have ih:=qza l (by omega);have ht:totL (a::l)=a.length+totL l:=by unfold totL;rw[List.map_cons,List.sum_cons]
  have e:(l.map λv=>min v.length 1000).sum=totL l:=by
   have:∀(l:LLC),(l.map λv=>min v.length 1000).sum<=300->(l.map λv=>min v.length 1000).sum=totL l:=by
    intro l
    induction l with
    |nil=>intro _;rfl
    |cons b l ih=>
     intro h;rw[List.map_cons,List.sum_cons]at h;have:=ih (by omega);show(List.map _ (b::l)).sum=(List.map _ (b::l)).sum;rw[List.map_cons,List.sum_cons,List.map_cons,List.sum_cons,this];show _=_+totL l;omega
   exact this l (by omega)
  rw[ht];omega
theorem zxl:q09 Tryz.prog 39 qdo q0l (λl=>qhw l) (λ_=>[]):=zj4 (λ_=>[]) λl hb _=>by
 have hl:l.length<=maxLen:=hb.1;show qes l;unfold qes;have e:List.foldl (λa(x:Bool×IntKind×Int)=>bif false then if x.2.2>a then x.2.2 else a else if x.2.2<a then x.2.2 else a) (l.length:Int) [(true,IntKind.i64,(40:Int))]=min (l.length:Int) 40:=z1g _ _;rw[e];have hlen:(eLC.lst (min (l.length:Int) 40).toNat (eLC.els l)).length=(min (l.length:Int) 40).toNat:=El.lst_length ..;refine⟨⟨by omega,by omega⟩,λ_ _=>El.ok_els _ _ _,?_⟩;exact ixJ0 (by rw[hlen]) (by rw[hlen];omega) trivial
theorem zj5{l:LLC}(h:qhw l=true):l.length<=40/\totL l<=300:=by
 unfold qhw at h;rw[Bool.and_eq_true,decide_eq_true_eq,decide_eq_true_eq]at h;obtain⟨h1,h2⟩:=h;have h1:l.length<=40:=by omega
 refine⟨h1,qza l ?_⟩;have e:List.foldl (λa(x:Bool×IntKind×Int)=>bif false then if x.2.2>a then x.2.2 else a else if x.2.2<a then x.2.2 else a) (l.length:Int) [(true,IntKind.i64,(40:Int))]=(l.length:Int):=(z1g _ _).trans (by omega)
 have hq:(qz1 l).2.2.2.2=((l.map λv=>min v.length 1000).sum:Nat):=by
  unfold qz1;rw[e,Int.toNat_natCast,El.lst_els];exact ziz l h1
 rw[hq]at h2;omega
theorem zq5(xs:LLC)(hm:xs.length<=maxLen)(h:totL xs<=1000000):(q07 z6j qy5 (xs,(xs.length:Int),0,0)).2.2.2.2=(totL xs:Int):=by
 have hr:q07 z6j qy5 (xs,(xs.length:Int),0,(0:Int))=_:=q0h (φ:=zdn) (ψ:=zq7) (λ_=>rfl) (λ_=>rfl) zia zwv (xs,(xs.length:Int)) (0:Int) rfl hm ⟨Int.le_refl _,by show(0:Int)+(totL xs:Int)<=1000000;omega⟩;have hs:=scan_fold (x:=0) (st:=qy3 (xs,(xs.length:Int))) (f:=λ(b:Int)(v:List q00)=>b+(v.length:Int)) (λ_ _ _=>rfl) xs 0 (0:Int)
 have hf:∀(l:LLC)(k:Int),l.foldl (λ(b:Int)(v:List q00)=>b+(v.length:Int)) k=k+(totL l:Int):=by
  intro l
  induction l with
  |nil=>intro k;simp[totL]
  |cons a l ih=>
   intro k;have ht:totL (a::l)=a.length+totL l:=by unfold totL;rw[List.map_cons,List.sum_cons]
   rw[List.foldl_cons,ih,ht];omega
 rw[hf]at hs;rw[hr];show(scan 0 (qy3 (xs,(xs.length:Int))) 0 xs (0:Int)).2.2=_;rw[hs];exact Int.zero_add _
theorem qmi:∀(l:LLC)(o:List q00),l.foldl (λ(b:List q00)(v:List q00)=>b++v) o=o++l.flatten
 | [],o=>by simp
 |a::l,o=>by rw[List.foldl_cons,qmi l,List.flatten_cons,List.append_assoc]
theorem zq0(xs:LLC)(hm:xs.length<=maxLen)(h:totL xs<=1000000):(q07 z6i qy2 (xs,(xs.length:Int),0,[])).2.2.2.2=xs.flatten:=by
 have hr:q07 z6i qy2 (xs,(xs.length:Int),0,([]:List q00))=_:=q0h (φ:=zdk) (ψ:=zq2) (λ_=>rfl) (λ_=>rfl) zi6 zwr (xs,(xs.length:Int)) ([]:List q00) rfl hm (by show 0+totL xs<=1000000;omega);have hs:=scan_fold (x:=2) (st:=qy0 (xs,(xs.length:Int))) (f:=λ(b:List q00)(v:List q00)=>b++v) (λ_ _ _=>rfl) xs 0 ([]:List q00);rw[qmi]at hs;rw[hr];show(scan 2 (qy0 (xs,(xs.length:Int))) 0 xs ([]:List q00)).2.2=_;rw[hs];rfl
theorem zpv(xs:LLC)(hm:xs.length<=maxLen)(h:totL xs<=1000000):(q07 z6h qxz (xs,(xs.length:Int),0,[])).2.2.2.2=xs.flatten:=by
 have hr:q07 z6h qxz (xs,(xs.length:Int),0,([]:List q00))=_:=q0h (φ:=zdh) (ψ:=zpx) (λ_=>rfl) (λ_=>rfl) zi3 zwo (xs,(xs.length:Int)) ([]:List q00) rfl hm (by show 0+totL xs<=1000000;omega);have hs:=scan_fold (x:=2) (st:=qxx (xs,(xs.length:Int))) (f:=λ(b:List q00)(v:List q00)=>b++v) (λ_ _ _=>rfl) xs 0 ([]:List q00);rw[qmi]at hs;rw[hr];show(scan 2 (qxx (xs,(xs.length:Int))) 0 xs ([]:List q00)).2.2=_;rw[hs];rfl
theorem zww:q09 Tryz.prog 41 qdo (Rv.D (.list eC)) (λl=>l.flatten) (λl=>[totL l<=1000000]):=by
 have hq1:∀l:LLC,l.length<=maxLen->totL l<=1000000->(q4b l).2.2.2.2=(totL l:Int):=λl hm h=>by
  unfold q4b;rw[El.ag_eq];exact zq5 l hm h
 have hw:∀n:Nat,n<=1000000->IntKind.i64.wrap ((n:Int)-0)=(n:Int):=λn h=>by rw[Int.sub_zero];exact wr (by omega)
 refine q19 (zdp (λl=>[totL l<=1000000]) λl hb hp=>?_) λl hb hp=>?_
 .have hm:l.length<=maxLen:=hb.1;have ht:totL l<=1000000:=hp _ (List.mem_cons_self ..);show qcn l;unfold qcn;rw[hq1 l hm ht,hw _ ht];simp only[El.okL_eq,El.ag_eq,qt2];refine⟨trivial,ixJ0 rfl hm ⟨Int.le_refl _,by show(0:Int)+(totL l:Int)<=1000000;omega⟩,λh=>absurd (of_decide_eq_true h) (by omega),λ_=>⟨λh=>?_,λ_=>⟨trivial,ixJ0 rfl hm (by show 0+totL l<=1000000;omega),Nat.le_refl _,λ_ _=>trivial⟩⟩⟩;have h:=of_decide_eq_true h;exact⟨⟨Int.le_refl _,Int.le_refl _⟩,⟨by omega,by omega,by omega⟩,⟨Int.le_refl _,by omega⟩,trivial,Nat.zero_le _,λ_ _=>trivial,ixJ0 rfl hm (by show 0+totL l<=1000000;omega),Nat.le_refl _,λ_ _=>trivial⟩
 .have hm:l.length<=maxLen:=hb.1;have ht:totL l<=1000000:=hp _ (List.mem_cons_self ..);show z6k l=l.flatten;unfold z6k;rw[hq1 l hm ht,hw _ ht,decide_eq_false (by omega)];have e2:(qdn l).2.2.2.2=l.flatten:=by unfold qdn;rw[El.ag_eq];exact zpv l hm ht
  have e3:(qdm l).2.2.2.2=l.flatten:=by unfold qdm;rw[El.ag_eq];exact zq0 l hm ht
  rw[e2,e3];simp only[El.ag_eq,cond_false];cases decide ((totL l:Int)>0)<;>rfl
theorem zw7:q09 Tryz.prog 43 z7a (Rv.D (.list eC)) (λl=>l) (λl=>[l.length<=KS]):=by
 have hq:∀l:List q00,l.length<=KS->(qdj l).2.2.2.2.2.1=l:=λl h=>by
  unfold qdj;rw[El.ag_eq];show(q07 qvl qsx (l,(l.length:Int),0,(),[],(.ready,none))).2.2.2.2.2.1=l;rw[zpk l h]
 refine q19 (zd3 (λl=>[l.length<=KS]) λl hb hp=>?_) λl hb hp=>?_
 .have h:l.length<=KS:=hp _ (List.mem_cons_self ..);show qck l;unfold qck;simp only[El.okL_eq,El.ag_eq];exact⟨trivial,rfl,rfl,ixJ0 rfl (Nat.le_trans h (by decide)) ⟨rfl,h,Int.le_refl _⟩,Nat.le_refl _,λ_ _=>trivial⟩
 .have h:l.length<=KS:=hp _ (List.mem_cons_self ..);show z5z l=l;unfold z5z;rw[hq l h,El.ag_eq]
theorem zwb:qie Tryz.prog 40 48 eLC qdo (λl=>l) (λl=>[l.length<=1000000]):=
 q5d (PTab.okz (PTab.nil:PTab Tryz.prog) [] []) q0f 100 λl _ hp=>by
  have byt:∀h:48<Tryz.prog.types.size,(Tryz.prog.types[(48:Nat)]'h).bytes=24:=λh=>by kernel_rfl
  have h:l.length<=1000000:=hp _ (List.mem_cons_self ..);rw[clc1];intro cs hcs;refine⟨λhc=>?_,λ_=>?_⟩
  .have hx:l=[]:=List.length_eq_zero_iff.1 (hcs (by cases hh:cs.isEmpty with
    |true=>rw[hh]at hc;cases hc
    |false=>rfl))
   exact hx.symm
  .refine⟨⟨Nat.le_refl _,λe _=>rfl,by unfold maxLen;omega,by rw[byt];omega⟩,rfl,λe he=>absurd he (by omega),λe _ p hp=>?_,?_⟩
   .rw[List.mem_singleton]at hp;rw[hp];exactλe' _=>El.ok_els _ _ _
   .show _++_=l;simp[El.lst_els]
end Go.Proofs.YthnojkbkojpadaaGreat

namespace Go.Proofs.YthnojkbkojpadaaGreat
noncomputable section
open Go.RowKit Go.Sx
instance:Inhabited Ldg:=⟨⟨[],[],[]⟩⟩
def qla:MTab Tryz.prog:=((((((((qql.cons 39 (q1y qdo q0l (λl=>qhw l) (λ_=>[])) (q0k zxl puB)).cons 16 (q1y aLPo dI dckC (λ_=>[])) (q0k zw1 puI)).cons 31 (q1y aLLC q0l (λg=>decide (g.1=g.2)) (λ_=>[])) (q0k zh4 puB)).cons 43 (qbf z7a (Rv.D (.list eC)) (λl=>l) (λl=>[l.length<=KS])) (q3v zw7)).cons 41 (qbf qdo (Rv.D (.list eC)) (λl=>l.flatten) (λl=>[totL l<=1000000])) (q3v zww)).consM 40 (qt3 48 eLC qdo (λl=>l) (λl=>[l.length<=1000000])) (qhe zwb)).consM 34 (qy8 TA.nil aLPo trNW (λ_ l=>((),newC l)) (λ_ l=>[l.length<=K30])) (qcp newW)).consM 35 (qy8 taW aLC (TR.pure dI) takC (λ_ c=>[c.length<=KS])) (qcp takW)).consM 42 (qy8 taW DA.none trAl (λg _=>(g,g.c)) (λ_ _=>[])) (qcp allW)
abbrev lo_G:Type:=LLC×Int×Int×Bool×Unit×Unit×Ldg×Ldg×LLC
def ztf:LP 5 lo_G:=.pair (.slot 5 89 dLLC) (.pair (.slot 5 90 dI) (.pair (.slot 5 91 dI) (.pair (.slot 5 6 q0l) (.pair (.fix 5 7 (.p 0 0)) (.pair (.fix 5 9 (.p 1 0)) (.pair (LP.abs 5 0 wLd) (.pair (LP.abs 5 1 wLd) (.row 5 14 48 eLC))))))))
def lo_R(xs:LLC)(n:Int)(i:Int)(r:Bool)(_u:Unit)(_v:Unit)(a:Ldg)(b:Ldg)(o:LLC):Ex×lo_G:=
 bif decide (i<n)then bif (takC (wLd.wrap a) (eC.ag (List.getD xs i.toNat eLC.dflt))).snd !=(0:Int)then(Ex.ret,eLC.ag xs,n,i,true,(),(),wLd.wrap (takC (wLd.wrap a) (eC.ag (List.getD xs i.toNat eLC.dflt))).fst,wLd.wrap b,eLC.ag o)else bif (takC (wLd.wrap b) (eC.ag (List.getD o i.toNat eLC.dflt))).snd !=(0:Int)then(Ex.ret,eLC.ag xs,n,i,true,(),(),wLd.wrap (takC (wLd.wrap a) (eC.ag (List.getD xs i.toNat eLC.dflt))).fst,wLd.wrap (takC (wLd.wrap b) (eC.ag (List.getD o i.toNat eLC.dflt))).fst,eLC.ag o)else(Ex.normal,eLC.ag xs,n,IntKind.i64.wrap (i+(1:Int)),r,(),(),wLd.wrap (takC (wLd.wrap a) (eC.ag (List.getD xs i.toNat eLC.dflt))).fst,wLd.wrap (takC (wLd.wrap b) (eC.ag (List.getD o i.toNat eLC.dflt))).fst,eLC.ag o)
 else(Ex.exit (0:Nat),eLC.ag xs,n,i,r,(),(),wLd.wrap a,wLd.wrap b,eLC.ag o)
def qrn(xs:LLC)(n:Int)(i:Int)(r:Bool)(_u:Unit)(_v:Unit)(a:Ldg)(b:Ldg)(o:LLC):Prop:=
 (decide (i<n)=true->((0:Int)<=i/\i<(↑(List.length xs):Int))/\eC.okL (List.getD xs i.toNat eLC.dflt)/\(eC.ag (List.getD xs i.toNat eLC.dflt)).length<=KS/\(((takC (wLd.wrap a) (eC.ag (List.getD xs i.toNat eLC.dflt))).snd !=(0:Int))=true->eLC.okL xs/\List.length o<=List.length o/\∀(e:Nat),e<List.length o->∀(p:Prop),p∈[eC.okL (List.getD o e eLC.dflt)]->p)/\(((takC (wLd.wrap a) (eC.ag (List.getD xs i.toNat eLC.dflt))).snd !=(0:Int))=false->((0:Int)<=i/\i<(↑(List.length o):Int))/\i.toNat<List.length o/\eC.okL (List.getD o i.toNat eLC.dflt)/\(eC.ag (List.getD o i.toNat eLC.dflt)).length<=KS/\(((takC (wLd.wrap b) (eC.ag (List.getD o i.toNat eLC.dflt))).snd !=(0:Int))=true->eLC.okL xs/\List.length o<=List.length o/\∀(e:Nat),e<List.length o->∀(p:Prop),p∈[eC.okL (List.getD o e eLC.dflt)]->p)/\(((takC (wLd.wrap b) (eC.ag (List.getD o i.toNat eLC.dflt))).snd !=(0:Int))=false->eLC.okL xs/\List.length o<=List.length o/\∀(e:Nat),e<List.length o->∀(p:Prop),p∈[eC.okL (List.getD o e eLC.dflt)]->p)))/\(decide (i<n)=false->eLC.okL xs/\List.length o<=List.length o/\∀(e:Nat),e<List.length o->∀(p:Prop),p∈[eC.okL (List.getD o e eLC.dflt)]->p)
theorem ztd:((q03 Tryz.prog 8).filter λc=>Nat.beq (lkey c) 13).length=1:=by kernel_rfl
abbrev qd9:Type:=LLC×Int×LLC
abbrev qww:Type:=Bool×Unit×Unit×Ldg×Ldg
def lo_f(g:lo_G):Int×qd9×qww:=(g.2.2.1,(g.1,g.2.1,g.2.2.2.2.2.2.2.2),(g.2.2.2.1,g.2.2.2.2.1,g.2.2.2.2.2.1,g.2.2.2.2.2.2.1,g.2.2.2.2.2.2.2.1))
def lo_g(d:Int×qd9×qww):lo_G:=(d.2.1.1,d.2.1.2.1,d.1,d.2.2.1,d.2.2.2.1,d.2.2.2.2.1,d.2.2.2.2.2.1,d.2.2.2.2.2.2,d.2.1.2.2)
abbrev qwv(g:lo_G):Ex×lo_G:=lo_R g.1 g.2.1 g.2.2.1 g.2.2.2.1 g.2.2.2.2.1 g.2.2.2.2.2.1 g.2.2.2.2.2.2.1 g.2.2.2.2.2.2.2.1 g.2.2.2.2.2.2.2.2
abbrev ztc(g:lo_G):Prop:=qrn g.1 g.2.1 g.2.2.1 g.2.2.2.1 g.2.2.2.2.1 g.2.2.2.2.2.1 g.2.2.2.2.2.2.1 g.2.2.2.2.2.2.2.1 g.2.2.2.2.2.2.2.2
theorem zyb(g:lo_G):(qwv g).1=.normal\/(qwv g).1∈([.ret,.exit 0]:List Ex):=by
 unfold qwv lo_R
 repeat' (first|(left;rfl)|(right;simp only[cond_true,cond_false];simp;done)|(rw[Bool.cond_eq_ite];split))
abbrev lo_C(Inv:lo_G->List Prop)(m:lo_G->Nat):LCon:=q2q [.ret,.exit 0] (loopBody Tryz.prog 8 13) ztf [] 143 Inv qwv m
theorem zm2(Inv:lo_G->List Prop)(m:lo_G->Nat)(hs:∀g,allP (Inv g)->ztc g)(hg:Goes qwv m λg=>allP (Inv g)):∀b∈q03 Tryz.prog 8,lkey b=13->q06 Tryz.prog b (lo_C Inv m).g:=q0s (Γ:=(MTab.gamz qla [] [])) (Λ:=qp3) (MTab.okz qla [] []) qbt 100 8 13 143 ztf [] Inv qwv ztc m default [.ret,.exit 0] ztd (λrd T B HL HB ds g=>by kernel_rfl) (λrd T B HL HB ds g=>by kernel_rfl) hs hg zyb
open Go.RowKit Go.Sx Go.Lp
def lo_S(c:qd9)(b:qww)(i:Int)(v:List q00):Ex×qww:=
 bif (takC b.2.2.2.1 v).2 !=(0:Int)then(.ret,true,(),(),(takC b.2.2.2.1 v).1,b.2.2.2.2)
 else bif (takC b.2.2.2.2 (c.2.2.getD i.toNat eLC.dflt)).2 !=(0:Int)then(.ret,true,(),(),(takC b.2.2.2.1 v).1,(takC b.2.2.2.2 (c.2.2.getD i.toNat eLC.dflt)).1)
 else(.normal,b.1,(),(),(takC b.2.2.2.1 v).1,(takC b.2.2.2.2 (c.2.2.getD i.toNat eLC.dflt)).1)
def lo_K(c:qd9)(_:qww)(_:Int):Prop:=(∀v∈c.1,v.length<=KS)/\(∀v∈c.2.2,v.length<=KS)/\c.1.length<=c.2.2.length
abbrev lo_I(g:lo_G):List Prop:=ixI (λc:qd9=>c.2.1) (λc=>c.1) lo_K (lo_f g)
abbrev lo_M(g:lo_G):Nat:=ixM (λc:qd9=>c.2.1) (lo_f g)
theorem lo_P:ixP lo_S (λc:qd9=>c.1) lo_K:=λ_ _ _ _ h _ _=>h
abbrev zm3(g:lo_G):Ex×lo_G:=lo_R g.1 g.2.1 g.2.2.1 g.2.2.2.1 g.2.2.2.2.1 g.2.2.2.2.2.1 g.2.2.2.2.2.2.1 g.2.2.2.2.2.2.2.1 g.2.2.2.2.2.2.2.2
theorem zxe(a:Ldg):wLd.wrap a=a:=rfl
theorem zte(d:Int×qd9×qww)(_:allP (ixI (λc:qd9=>c.2.1) (λc=>c.1) lo_K d)):zm3 (lo_g d)=((ixF 0 (λc:qd9=>c.2.1) (λc=>c.1) eLC.dflt lo_S d).1,lo_g (ixF 0 (λc:qd9=>c.2.1) (λc=>c.1) eLC.dflt lo_S d).2):=by
 obtain⟨i,⟨xs,n,o⟩,r,⟨⟩,⟨⟩,a,b⟩:=d;show lo_R xs n i r () () a b o=_;unfold lo_R ixF lo_S;simp only[El.ag_eq,zxe];by_cases hlt:i<n
 .simp only[hlt,decide_true,cond_true];show(bif (takC a (xs.getD i.toNat eLC.dflt)).2 !=0 then _ else _)=_;generalize takC a (xs.getD i.toNat eLC.dflt)=z;generalize takC b (List.getD o i.toNat eLC.dflt)=w;cases z.2 !=(0:Int)with
  |true=>rfl
  |false=>
   cases w.2 !=(0:Int)<;>rfl
 .simp only[hlt,decide_false,cond_false];rfl
theorem zya:∀b∈q03 Tryz.prog 8,lkey b=13->q06 Tryz.prog b (lo_C lo_I lo_M).g:=by
 refine zm2 lo_I lo_M (λg hi=>?_) (q0e (λ_=>rfl) (λ_=>rfl) zte lo_P);obtain⟨xs,n,i,r,⟨⟩,⟨⟩,a,b,o⟩:=g;obtain⟨h1,h2,h3,h4,h5,h6,h7⟩:=hi _ (List.mem_cons_self ..);have h1:n=(xs.length:Int):=h1;have h3:0<=i:=h3;have h5:∀v∈xs,v.length<=KS:=h5;have h6:∀v∈o,v.length<=KS:=h6;have h7:xs.length<=o.length:=h7;have hone:∀(e:Nat),e<o.length->∀(p:Prop),p∈[True]->p:=λ_ _ p hp=>by rw[List.mem_singleton.1 hp];trivial
 show qrn xs n i r () () a b o;unfold qrn;simp only[El.okL_eq,El.ag_eq];refine⟨λhlt=>?_,λ_=>⟨trivial,Nat.le_refl _,hone⟩⟩;have hr:=rngP i n _ h1 h3 hlt;have hl:i.toNat<xs.length:=by omega
 have hlo:i.toNat<o.length:=by omega
 have hx:(List.getD xs i.toNat eLC.dflt).length<=KS:=h5 _ (by rw[List.getD_eq_getElem?_getD,List.getElem?_eq_getElem hl];exact List.getElem_mem hl);have ho:(List.getD o i.toNat eLC.dflt).length<=KS:=h6 _ (by rw[List.getD_eq_getElem?_getD,List.getElem?_eq_getElem hlo];exact List.getElem_mem hlo);exact⟨hr,trivial,hx,λ_=>⟨trivial,Nat.le_refl _,hone⟩,λ_=>⟨⟨h3,by omega⟩,hlo,trivial,ho,λ_=>⟨trivial,Nat.le_refl _,hone⟩,λ_=>⟨trivial,Nat.le_refl _,hone⟩⟩⟩
def zt6:LTab Tryz.prog:=zlu.cons 8 13 (lo_C lo_I lo_M) zya
abbrev zfw:Lam:=zt6.lam
theorem z1z:∀f k L,zfw f k=some L->∀b∈q03 Tryz.prog f,lkey b=k->q06 Tryz.prog b L.g:=zt6.ok
def HasC(g:Ldg)(xs:List q00):Prop:=SrtC g.c/\(∀v∈g.c,v.n≠0)/\(∀t,sumC g.c t=sumC xs t)/\g.c.length<=4096
theorem qlc(a b:List q00)(t:Ky):sumC (a++b) t=sumC a t+sumC b t:=qfs keyC q00.n a b t
theorem zil(xs:List q00)(t:Ky):sumC (totC xs) t=sumC xs t:=by
 have h:=(qaq keyC q00.n toK qgn qu8 xs [] List.Pairwise.nil).2.2 t;refine h.trans ?_;show(0:Int)+_=_;exact Int.zero_add _
theorem zlk{xs:List q00}(h:(netC xs).2=0)(t:Ky):sumC (netC xs).1 t=sumC xs t:=by
 unfold netC at h ⊢;cases h1:xs.any tBad with
 |true=>rw[h1]at h;cases h
 |false=>
  rw[h1]at h;cases h2:xs.any cBad with
  |true=>rw[h2]at h;cases h
  |false=>
   rw[h2]at h;cases h3:(totC xs).any cBad with
   |true=>rw[h3]at h;cases h
   |false=>
    show sumC ((totC xs).filter _) t=_;rw[zek,zil]
theorem qqk{g:Ldg}{xs ys:List q00}(hg:HasC g xs)(h:(takC g ys).2=0):HasC (takC g ys).1 (xs++ys):=by
 obtain⟨h1,h2,h3,_⟩:=hg;unfold takC at h ⊢;cases ha:(netC ys).2 !=(0:Int)with
 |true=>
  rw[ha]at h;have h:(netC ys).2=0:=h;rw[h]at ha;cases ha
 |false=>
  rw[ha]at h;have hn:(netC ys).2=0:=by simpa using ha
  cases hb:(netC ys).1.any λv=>!q9y (sumC g.c (keyC v)+v.n)with
  |true=>rw[hb]at h;cases h
  |false=>
   rw[hb]at h;cases hc:decide ((q3b g.c (netC ys).1).length>4096)with
   |true=>rw[hc]at h;cases h
   |false=>
    show HasC ⟨g.l,g.dep,q3b g.c (netC ys).1⟩ (xs++ys);obtain⟨k1,k2,k3⟩:=qoa (c:=g.c) (net:=(netC ys).1) h1;refine⟨k1,k3,λt=>?_,?_⟩
    .show sumC (q3b g.c (netC ys).1) t=_;rw[k2,h3,qlc,zlk hn]
    .have:=of_decide_eq_false hc;show(q3b g.c (netC ys).1).length<=4096;omega
theorem z3h{g g':Ldg}{xs ys:List q00}(hg:HasC g xs)(hg':HasC g' ys)(h:∀t,sumC xs t=sumC ys t):g.c=g'.c:=by
 obtain⟨h1,h2,h3,_⟩:=hg;obtain⟨k1,k2,k3,_⟩:=hg';have hs:∀t,sumC g.c t=sumC g'.c t:=λt=>by rw[h3,k3,h]
 have hin:∀{a b:List q00},SrtC a->SrtC b->(∀v∈a,v.n≠0)->(∀t,sumC a t=sumC b t)->∀y∈a,y∈b:=λ{a b}ha hb hn he y hy=>by
  have e1:=q3n keyC q00.n (qim keyC toK ha) hy;have e2:sumC b (keyC y)=y.n:=by rw[<-he];exact e1
  by_cases hx:∃z∈b,keyC z=keyC y
  .obtain⟨z,hz,hk⟩:=hx;have e3:=q3n keyC q00.n (qim keyC toK hb) hz;rw[hk]at e3;have:z=y:=extC _ _ hk (by rw[<-e3];exact e2);rw[<-this];exact hz
  .exfalso;have e4:sumC b (keyC y)=0:=qav keyC q00.n λz hz hk=>hx ⟨z,hz,hk⟩;exact hn y hy (by rw[<-e2];exact e4)
 exact q58 keyC q00.n lexK toK extC h1 k1 λy=>⟨hin h1 k1 h2 hs y,hin k1 h1 k2 (λt=>(hs t).symm) y⟩
theorem z1s(c:qd9):∀(l:LLC)(i:Nat)(p:LLC)(r:Bool)(a b:Ldg),HasC a p.flatten->HasC b (c.2.2.take i).flatten->i+l.length<=c.2.2.length->
  ((scan 0 (lo_S c) (i:Int) l (r,(),(),a,b)).1=.ret/\(scan 0 (lo_S c) (i:Int) l (r,(),(),a,b)).2.2.1=true)\/
  ((scan 0 (lo_S c) (i:Int) l (r,(),(),a,b)).1=.exit 0/\HasC (scan 0 (lo_S c) (i:Int) l (r,(),(),a,b)).2.2.2.2.2.1 (p++l).flatten/\HasC (scan 0 (lo_S c) (i:Int) l (r,(),(),a,b)).2.2.2.2.2.2 (c.2.2.take (i+l.length)).flatten)
 | [],i,p,r,a,b,ha,hb,_=>.inr ⟨rfl,by rw[List.append_nil];exact ha,hb⟩
 |v::l,i,p,r,a,b,ha,hb,hl=>by
  rw[List.length_cons]at hl;have hlt:i<c.2.2.length:=by omega
  have hget:c.2.2.getD ((i:Int)).toNat eLC.dflt=c.2.2[i]:=by
   rw[Int.toNat_natCast,List.getD_eq_getElem?_getD,List.getElem?_eq_getElem hlt];rfl
  simp only[scan,lo_S,hget];cases h1:(takC a v).2 !=(0:Int)with
  |true=>exact .inl ⟨rfl,rfl⟩
  |false=>
   cases h2:(takC b c.2.2[i]).2 !=(0:Int)with
   |true=>exact .inl ⟨rfl,rfl⟩
   |false=>
    have e1:(takC a v).2=0:=by simpa using h1
    have e2:(takC b c.2.2[i]).2=0:=by simpa using h2
    have k1:=qqk ha e1;have k2:=qqk hb e2;have q1:(p++[v]).flatten=p.flatten++v:=by simp
    have q2:(c.2.2.take (i+1)).flatten=(c.2.2.take i).flatten++c.2.2[i]:=by
     rw[List.take_succ_eq_append_getElem hlt,List.flatten_append];simp
    have ih:=z1s c l (i+1) (p++[v]) r (takC a v).1 (takC b c.2.2[i]).1 (by rw[q1];exact k1) (by rw[q2];exact k2) (by omega);rw[show((i+1:Nat):Int)=(i:Int)+1 by omega,show p++[v]++l=p++v::l by simp,show i+1+l.length=i+(l.length+1) by omega]at ih;exact ih
abbrev aOrd:DA (List Path×LLC×Int):=.cons dLP (.cons dLLC (.one (dInt .u8)))
def q3r(cs:List Nat)(l:List Path)(bs:LLC)(t:Int):List Path:=
 ePa.lst l.length (ePa.els l)
def qou(cs:List Nat)(l:List Path)(bs:LLC)(t:Int):q0l.T:=
 qi8 (q3r cs l bs t)
def q5i(cs:List Nat)(l:List Path)(bs:LLC)(t:Int):List (List q00):=
 eLC.lst (List.length bs) (eLC.els bs)
def qup(cs:List Nat)(l:List Path)(bs:LLC)(t:Int):q0l.T:=
 qhw (q5i cs l bs t)
def q1k(cs:List Nat)(l:List Path)(bs:LLC)(t:Int):Option Ldg×Int:=
 newC (q3r cs l bs t)
def q1b(cs:List Nat)(l:List Path)(bs:LLC)(t:Int):Int:=
 (IntKind.i64.wrap t).tmod (↑(List.length bs):Int)
def q1p(cs:List Nat)(l:List Path)(bs:LLC)(t:Int):List (List q00):=
 eLC.lst (List.length bs-(q1b cs l bs t).toNat) (shEl (q1b cs l bs t).toNat (eLC.els bs))
def qjf(cs:List Nat)(l:List Path)(bs:LLC)(t:Int):List (List q00):=
 eLC.lst (min ((q1p cs l bs t).length+(q1b cs l bs t).toNat) (q1p cs l bs t).length) (eLC.els (q1p cs l bs t))
def qje(cs:List Nat)(l:List Path)(bs:LLC)(t:Int):List (List q00):=
 eLC.lst ((q1p cs l bs t).length+(q1b cs l bs t).toNat-(q1p cs l bs t).length) (eLC.els bs)
def q1i(cs:List Nat)(l:List Path)(bs:LLC)(t:Int):Ex×
 lo_G:=
 q07 (λg=>lo_R g.fst g.snd.fst g.snd.snd.fst g.snd.snd.snd.fst g.snd.snd.snd.snd.fst g.snd.snd.snd.snd.snd.fst g.snd.snd.snd.snd.snd.snd.fst g.snd.snd.snd.snd.snd.snd.snd.fst g.snd.snd.snd.snd.snd.snd.snd.snd) lo_M ((q5i cs l bs t),(↑(List.length bs):Int),(0:Int),false,(),(),wLd.wrap ((q1k cs l bs t).fst.getD dLW),wLd.wrap ((q1k cs l bs t).fst.getD dLW),(qjf cs l bs t)++(qje cs l bs t))
def qd4(cs:List Nat)(l:List Path)(bs:LLC)(t:Int):List q00:=
 eC.lst (q5i cs l bs t).flatten.length (eC.els (q5i cs l bs t).flatten)
def q2i(cs:List Nat)(l:List Path)(bs:LLC)(t:Int):Ldg×Int:=
 takC (wLd.wrap ((q1k cs l bs t).fst.getD dLW)) (qd4 cs l bs t)
def q6a(cs:List Nat)(l:List Path)(bs:LLC)(t:Int):List
 q00:=
 eC.lst (wLd.wrap (q1i cs l bs t).snd.snd.snd.snd.snd.snd.snd.snd.fst).c.length (eC.els (wLd.wrap (q1i cs l bs t).snd.snd.snd.snd.snd.snd.snd.snd.fst).c)
def q3q(cs:List Nat)(l:List Path)(bs:LLC)(t:Int):List q00:=
 eC.lst (q6a cs l bs t).length (eC.els (q6a cs l bs t))
def q3p(cs:List Nat)(l:List Path)(bs:LLC)(t:Int):List
 q00:=
 eC.lst (wLd.wrap (q1i cs l bs t).snd.snd.snd.snd.snd.snd.snd.fst).c.length (eC.els (wLd.wrap (q1i cs l bs t).snd.snd.snd.snd.snd.snd.snd.fst).c)
def q2t(cs:List Nat)(l:List Path)(bs:LLC)(t:Int):List q00:=
 eC.lst (q3p cs l bs t).length (eC.els (q3p cs l bs t))
def q69(cs:List Nat)(l:List Path)(bs:LLC)(t:Int):List q00:=
 eC.lst (wLd.wrap (q2i cs l bs t).fst).c.length (eC.els (wLd.wrap (q2i cs l bs t).fst).c)
def qd3(cs:List Nat)(l:List Path)(bs:LLC)(t:Int):List q00:=
 eC.lst (q69 cs l bs t).length (eC.els (q69 cs l bs t))
def z1o(cs:List Nat)(l:List Path)(bs:LLC)(t:Int):Dv.T q0l:=
 bif !true then false
 else bif !(qou cs l bs t)||(!(qup cs l bs t)||(↑(List.length bs):Int)==(0:Int))then true else bif (q1k cs l bs t).fst.isSome then bif (q1k cs l bs t).fst.isSome then bif (q1k cs l bs t).fst.isSome then bif (q1k cs l bs t).snd !=(0:Int)||((q1k cs l bs t).snd !=(0:Int)||(q1k cs l bs t).snd !=(0:Int))then dckC (q3r cs l bs t)!=(0:Int)else bif (hdC cs).isEmpty then bif exB Ex.ret (q1i cs l bs t).fst then(q1i cs l bs t).snd.snd.snd.snd.fst else bif (q2i cs l bs t).snd !=(0:Int)then true else decide ((q3q cs l bs t)=(q2t cs l bs t))&&decide ((qd3 cs l bs t)=(q2t cs l bs t))else bif exB Ex.ret (q1i cs l bs t).fst then(q1i cs l bs t).snd.snd.snd.snd.fst else bif (q2i cs l bs t).snd !=(0:Int)then true else decide ((q3q cs l bs t)=(q2t cs l bs t))&&decide ((qd3 cs l bs t)=(q2t cs l bs t))else dckC (q3r cs l bs t)!=(0:Int)else bif (q1k cs l bs t).fst.isSome then dckC (q3r cs l bs t)!=(0:Int)else dckC (q3r cs l bs t)!=(0:Int)else bif (q1k cs l bs t).fst.isSome then bif (q1k cs l bs t).fst.isSome then dckC (q3r cs l bs t)!=(0:Int)else dckC (q3r cs l bs t)!=(0:Int)else bif (q1k cs l bs t).fst.isSome then dckC (q3r cs l bs t)!=(0:Int)else dckC (q3r cs l bs t)!=(0:Int)
def qbn(cs:List Nat)(l:List Path)(bs:LLC)(t:Int):Prop:=
 (!true)=false->(∀(e:Nat),e<l.length->ePa.Ok (ePa.els l e))/\((!!(qou cs l bs t))=true->∀(e:Nat),e<List.length bs->eLC.Ok (eLC.els bs e))/\((!(qou cs l bs t)||(!(qup cs l bs t)||(↑(List.length bs):Int)==(0:Int)))=false->(∀(e:Nat),e<l.length->ePa.Ok (ePa.els l e))/\(q3r cs l bs t).length<=K30/\((q1k cs l bs t).fst.isSome=true->(∀(e:Nat),e<l.length->ePa.Ok (ePa.els l e))/\(q3r cs l bs t).length<=K30/\((q1k cs l bs t).fst.isSome=true->(∀(e:Nat),e<l.length->ePa.Ok (ePa.els l e))/\(q3r cs l bs t).length<=K30/\((q1k cs l bs t).fst.isSome=true->(((q1k cs l bs t).snd !=(0:Int)||((q1k cs l bs t).snd !=(0:Int)||(q1k cs l bs t).snd !=(0:Int)))=true->∀(e:Nat),e<l.length->ePa.Ok (ePa.els l e))/\(((q1k cs l bs t).snd !=(0:Int)||((q1k cs l bs t).snd !=(0:Int)||(q1k cs l bs t).snd !=(0:Int)))=false->(↑(List.length bs):Int)≠(0:Int)/\((hdC cs).isEmpty=true->List.length bs<=List.length bs/\((0:Int)<=(q1b cs l bs t)/\(q1b cs l bs t)<=(↑(List.length bs):Int))/\(∀(e:Nat),e<List.length bs-(q1b cs l bs t).toNat->eLC.Ok (shEl (q1b cs l bs t).toNat (eLC.els bs) e))/\(q1p cs l bs t).length<=(1000000:Nat)/\((0:Int)<=(q1b cs l bs t)/\(q1b cs l bs t)<=(↑(List.length bs):Int))/\((q1p cs l bs t).length<=(q1p cs l bs t).length/\(∀(e:Nat),e<(q1b cs l bs t).toNat->(eLC.els bs e).all SV.one=true)/\(q1p cs l bs t).length+(q1b cs l bs t).toNat<=maxLen/\((q1p cs l bs t).length+(q1b cs l bs t).toNat)*Tryz.prog.types[(48:Nat)].bytes<=(140737488355328:Nat))/\(∀(e:Nat),e<List.length bs->eLC.Ok (eLC.els bs e))/\(q1p cs l bs t).length+(q1b cs l bs t).toNat<=(q1p cs l bs t).length+(q1b cs l bs t).toNat/\(∀(e:Nat),e<min ((q1p cs l bs t).length+(q1b cs l bs t).toNat) (q1p cs l bs t).length->∀(p:Prop),p∈[∀(e_1:Nat),e_1<((q1p cs l bs t).getD e eLC.dflt).length->eC.Ok (eC.els ((q1p cs l bs t).getD e eLC.dflt) e_1)]->p)/\(∀(e:Nat),e<(q1p cs l bs t).length+(q1b cs l bs t).toNat-(q1p cs l bs t).length->∀(p:Prop),p∈[∀(e_1:Nat),e_1<(List.getD bs e eLC.dflt).length->eC.Ok (eC.els (List.getD bs e eLC.dflt) e_1)]->p)/\Lp.ixJ (λc=>c.snd.fst) (λc=>c.fst) lo_K (lo_f ((q5i cs l bs t),(↑(List.length bs):Int),(0:Int),false,(),(),wLd.wrap ((q1k cs l bs t).fst.getD dLW),wLd.wrap ((q1k cs l bs t).fst.getD dLW),(qjf cs l bs t)++(qje cs l bs t)))/\(exB Ex.ret (q1i cs l bs t).fst=false->(∀(e:Nat),e<List.length bs->eLC.Ok (eLC.els bs e))/\totL (q5i cs l bs t)<=(1000000:Nat)/\(∀(e:Nat),e<(q5i cs l bs t).flatten.length->eC.Ok (eC.els (q5i cs l bs t).flatten e))/\(qd4 cs l bs t).length<=KS/\(((q2i cs l bs t).snd !=(0:Int))=false->(∀(e:Nat),e<(wLd.wrap (q1i cs l bs t).snd.snd.snd.snd.snd.snd.snd.fst).c.length->eC.Ok (eC.els (wLd.wrap (q1i cs l bs t).snd.snd.snd.snd.snd.snd.snd.fst).c e))/\(q3p cs l bs t).length<=KS/\(∀(e:Nat),e<(wLd.wrap (q1i cs l bs t).snd.snd.snd.snd.snd.snd.snd.snd.fst).c.length->eC.Ok (eC.els (wLd.wrap (q1i cs l bs t).snd.snd.snd.snd.snd.snd.snd.snd.fst).c e))/\(q6a cs l bs t).length<=KS/\(∀(e:Nat),e<(q6a cs l bs t).length->eC.Ok (eC.els (q6a cs l bs t) e))/\(∀(e:Nat),e<(q3p cs l bs t).length->eC.Ok (eC.els (q3p cs l bs t) e))/\(decide ((q3q cs l bs t)=(q2t cs l bs t))=true->∀(e:Nat),e<(wLd.wrap (q2i cs l bs t).fst).c.length->eC.Ok (eC.els (wLd.wrap (q2i cs l bs t).fst).c e))/\(decide ((q3q cs l bs t)=(q2t cs l bs t))=true->(q69 cs l bs t).length<=KS)/\(decide ((q3q cs l bs t)=(q2t cs l bs t))=true->∀(e:Nat),e<(q69 cs l bs t).length->eC.Ok (eC.els (q69 cs l bs t) e))/\(decide ((q3q cs l bs t)=(q2t cs l bs t))=true->∀(e:Nat),e<(q3p cs l bs t).length->eC.Ok (eC.els (q3p cs l bs t) e)))))/\((hdC cs).isEmpty=false->List.length bs<=List.length bs/\((0:Int)<=(q1b cs l bs t)/\(q1b cs l bs t)<=(↑(List.length bs):Int))/\((0:Int)<=(q1b cs l bs t)/\(q1b cs l bs t)<=(↑(List.length bs):Int))/\(∀(e:Nat),e<List.length bs-(q1b cs l bs t).toNat->eLC.Ok (shEl (q1b cs l bs t).toNat (eLC.els bs) e))/\(q1p cs l bs t).length<=(1000000:Nat)/\((q1p cs l bs t).length<=(q1p cs l bs t).length/\(∀(e:Nat),e<(q1b cs l bs t).toNat->(eLC.els bs e).all SV.one=true)/\(q1p cs l bs t).length+(q1b cs l bs t).toNat<=maxLen/\((q1p cs l bs t).length+(q1b cs l bs t).toNat)*Tryz.prog.types[(48:Nat)].bytes<=(140737488355328:Nat))/\(∀(e:Nat),e<List.length bs->eLC.Ok (eLC.els bs e))/\(q1p cs l bs t).length+(q1b cs l bs t).toNat<=(q1p cs l bs t).length+(q1b cs l bs t).toNat/\(∀(e:Nat),e<min ((q1p cs l bs t).length+(q1b cs l bs t).toNat) (q1p cs l bs t).length->∀(p:Prop),p∈[∀(e_1:Nat),e_1<((q1p cs l bs t).getD e eLC.dflt).length->eC.Ok (eC.els ((q1p cs l bs t).getD e eLC.dflt) e_1)]->p)/\(∀(e:Nat),e<(q1p cs l bs t).length+(q1b cs l bs t).toNat-(q1p cs l bs t).length->∀(p:Prop),p∈[∀(e_1:Nat),e_1<(List.getD bs e eLC.dflt).length->eC.Ok (eC.els (List.getD bs e eLC.dflt) e_1)]->p)/\Lp.ixJ (λc=>c.snd.fst) (λc=>c.fst) lo_K (lo_f ((q5i cs l bs t),(↑(List.length bs):Int),(0:Int),false,(),(),wLd.wrap ((q1k cs l bs t).fst.getD dLW),wLd.wrap ((q1k cs l bs t).fst.getD dLW),(qjf cs l bs t)++(qje cs l bs t)))/\(exB Ex.ret (q1i cs l bs t).fst=false->(∀(e:Nat),e<List.length bs->eLC.Ok (eLC.els bs e))/\totL (q5i cs l bs t)<=(1000000:Nat)/\(∀(e:Nat),e<(q5i cs l bs t).flatten.length->eC.Ok (eC.els (q5i cs l bs t).flatten e))/\(qd4 cs l bs t).length<=KS/\(((q2i cs l bs t).snd !=(0:Int))=false->(∀(e:Nat),e<(wLd.wrap (q1i cs l bs t).snd.snd.snd.snd.snd.snd.snd.fst).c.length->eC.Ok (eC.els (wLd.wrap (q1i cs l bs t).snd.snd.snd.snd.snd.snd.snd.fst).c e))/\(q3p cs l bs t).length<=KS/\(∀(e:Nat),e<(wLd.wrap (q1i cs l bs t).snd.snd.snd.snd.snd.snd.snd.snd.fst).c.length->eC.Ok (eC.els (wLd.wrap (q1i cs l bs t).snd.snd.snd.snd.snd.snd.snd.snd.fst).c e))/\(q6a cs l bs t).length<=KS/\(∀(e:Nat),e<(q6a cs l bs t).length->eC.Ok (eC.els (q6a cs l bs t) e))/\(∀(e:Nat),e<(q3p cs l bs t).length->eC.Ok (eC.els (q3p cs l bs t) e))/\(decide ((q3q cs l bs t)=(q2t cs l bs t))=true->∀(e:Nat),e<(wLd.wrap (q2i cs l bs t).fst).c.length->eC.Ok (eC.els (wLd.wrap (q2i cs l bs t).fst).c e))/\(decide ((q3q cs l bs t)=(q2t cs l bs t))=true->(q69 cs l bs t).length<=KS)/\(decide ((q3q cs l bs t)=(q2t cs l bs t))=true->∀(e:Nat),e<(q69 cs l bs t).length->eC.Ok (eC.els (q69 cs l bs t) e))/\(decide ((q3q cs l bs t)=(q2t cs l bs t))=true->∀(e:Nat),e<(q3p cs l bs t).length->eC.Ok (eC.els (q3p cs l bs t) e)))))))/\((q1k cs l bs t).fst.isSome=false->∀(e:Nat),e<l.length->ePa.Ok (ePa.els l e)))/\((q1k cs l bs t).fst.isSome=false->(∀(e:Nat),e<l.length->ePa.Ok (ePa.els l e))/\(q3r cs l bs t).length<=K30/\((q1k cs l bs t).fst.isSome=true->∀(e:Nat),e<l.length->ePa.Ok (ePa.els l e))/\((q1k cs l bs t).fst.isSome=false->∀(e:Nat),e<l.length->ePa.Ok (ePa.els l e))))/\((q1k cs l bs t).fst.isSome=false->(∀(e:Nat),e<l.length->ePa.Ok (ePa.els l e))/\(q3r cs l bs t).length<=K30/\((q1k cs l bs t).fst.isSome=true->(∀(e:Nat),e<l.length->ePa.Ok (ePa.els l e))/\(q3r cs l bs t).length<=K30/\((q1k cs l bs t).fst.isSome=true->∀(e:Nat),e<l.length->ePa.Ok (ePa.els l e))/\((q1k cs l bs t).fst.isSome=false->∀(e:Nat),e<l.length->ePa.Ok (ePa.els l e)))/\((q1k cs l bs t).fst.isSome=false->(∀(e:Nat),e<l.length->ePa.Ok (ePa.els l e))/\(q3r cs l bs t).length<=K30/\((q1k cs l bs t).fst.isSome=true->∀(e:Nat),e<l.length->ePa.Ok (ePa.els l e))/\((q1k cs l bs t).fst.isSome=false->∀(e:Nat),e<l.length->ePa.Ok (ePa.els l e)))))
theorem zm0(fn:DA.T aOrd->Dv.T q0l)(pre:DA.T aOrd->List Prop)(h:∀cs g,DA.bd aOrd g->(∀p∈pre g,p)->qbn cs g.1 g.2.1 g.2.2/\z1o cs g.1 g.2.1 g.2.2=fn g):q09 Tryz.prog 8 aOrd q0l fn pre:=qbe (Γ:=(MTab.gamz qla [] [])) (Λ:=zfw) (MTab.okz qla [] []) z1z 100 default (λcs g=>qbn cs g.1 g.2.1 g.2.2) (λcs g=>z1o cs g.1 g.2.1 g.2.2) (λcs g=>by kernel_rfl) (λcs g=>by kernel_rfl) h
end
end Go.Proofs.YthnojkbkojpadaaGreat

namespace Go.Proofs.YthnojkbkojpadaaGreat
open Go.RowKit Go.Sx Go.Lp
theorem qyt:∀(xs:LLC),xs.flatten.length=totL xs
 | []=>rfl
 |a::l=>by
  have ht:totL (a::l)=a.length+totL l:=by unfold totL;rw[List.map_cons,List.sum_cons]
  rw[List.flatten_cons,List.length_append,qyt l,ht]
theorem zqw{xs:LLC}{v:List q00}(h:v∈xs):v.length<=totL xs:=by
 induction xs with
 |nil=>cases h
 |cons a l ih=>
  have ht:totL (a::l)=a.length+totL l:=by unfold totL;rw[List.map_cons,List.sum_cons]
  rcases List.mem_cons.1 h with rfl|h
  .omega
  .have:=ih h;omega
theorem zk5(xs:LLC)(k:Nat)(t:Ky):sumC (xs.drop k++xs.take k).flatten t=sumC xs.flatten t:=by
 have e:xs.flatten=(xs.take k++xs.drop k).flatten:=by rw[List.take_append_drop]
 rw[e,List.flatten_append,List.flatten_append,qlc,qlc,Int.add_comm]
theorem zfl(l:List Path):((newC l).1.getD dLW).c=[]:=by
 unfold newC;cases chkP l !=(0:Int)<;>rfl
theorem has0{g:Ldg}(h:g.c=[]):HasC g []:=by
 unfold HasC;rw[h];exact⟨List.Pairwise.nil,λv hv=>(by cases hv),λt=>rfl,Nat.zero_le _⟩
theorem za2{l:List Path}(hl:l.length<=maxLen):((newC l).1.isSome=true/\(newC l).2=0)\/((newC l).1.isSome=false/\(dckC l !=(0:Int))=true):=by
 unfold newC;rw[<-qvm l hl];cases h:chkP l !=(0:Int)with
 |true=>exact .inr ⟨rfl,rfl⟩
 |false=>exact .inl ⟨rfl,rfl⟩
theorem zaa(bs o:LLC)(g0:Ldg)(hg:g0.c=[])(hm:bs.length<=maxLen)(h1:∀v∈bs,v.length<=KS)(h2:∀v∈o,v.length<=KS)(h3:bs.length=o.length):
  let q:=q07 zm3 lo_M (bs,(bs.length:Int),0,false,(),(),g0,g0,o)
  (q.1=.ret/\q.2.2.2.2.1=true)\/(q.1=.exit 0/\HasC q.2.2.2.2.2.2.2.1 bs.flatten/\HasC q.2.2.2.2.2.2.2.2.1 o.flatten):=by
 intro q;have hr:q=_:=q0h (φ:=lo_f) (ψ:=lo_g) (λ_=>rfl) (λ_=>rfl) zte lo_P (bs,(bs.length:Int),o) (false,(),(),g0,g0) rfl hm ⟨h1,h2,Nat.le_of_eq h3⟩;have h0:=has0 hg;have hs:=z1s (bs,(bs.length:Int),o) bs 0 [] false g0 g0 h0 h0 (by show 0+bs.length<=o.length;omega);rw[hr];rw[show((0:Nat):Int)=0 from rfl]at hs;have ho:List.take (0+bs.length) o=o:=List.take_of_length_le (by omega)
 have hs:((scan 0 (lo_S (bs,(bs.length:Int),o)) 0 bs (false,(),(),g0,g0)).1=.ret/\(scan 0 (lo_S (bs,(bs.length:Int),o)) 0 bs (false,(),(),g0,g0)).2.2.1=true)\/
  ((scan 0 (lo_S (bs,(bs.length:Int),o)) 0 bs (false,(),(),g0,g0)).1=.exit 0/\HasC (scan 0 (lo_S (bs,(bs.length:Int),o)) 0 bs (false,(),(),g0,g0)).2.2.2.2.2.1 ([]++bs).flatten/\HasC (scan 0 (lo_S (bs,(bs.length:Int),o)) 0 bs (false,(),(),g0,g0)).2.2.2.2.2.2 (List.take (0+bs.length) o).flatten):=hs
 rw[ho,List.nil_append]at hs;exact hs
theorem ztb(cs:List Nat)(l:List Path)(bs:LLC)(t:Int)(hl:l.length<=maxLen)(hb:bs.length<=maxLen)(ht:0<=t/\t<=255):qbn cs l bs t/\z1o cs l bs t=true:=by
 have q1:q3r cs l bs t=l:=El.lst_els ..;have q2:qou cs l bs t=qi8 l:=by unfold qou;rw[q1]
 have q3:q5i cs l bs t=bs:=El.lst_els ..;have q4:qup cs l bs t=qhw bs:=by unfold qup;rw[q3]
 have q5:q1k cs l bs t=newC l:=by unfold q1k;rw[q1]
 by_cases hc:(!(qi8 l)||(!(qhw bs)||(bs.length:Int)==(0:Int)))=true
 .refine⟨?_,?_⟩
  .unfold qbn;rw[q2,q4,hc];exactλ_=>⟨λ_ _=>El.ok_els _ _ _,λ_ _ _=>El.ok_els _ _ _,λh=>by cases h⟩
  .unfold z1o;rw[q2,q4,hc];rfl
 have hc0:(!(qi8 l)||(!(qhw bs)||(bs.length:Int)==(0:Int)))=false:=by simpa using hc
 rw[Bool.or_eq_false_iff,Bool.or_eq_false_iff]at hc0;obtain⟨hA,hB,hC⟩:=hc0;have hA:qi8 l=true:=by simpa using hA
 have hB:qhw bs=true:=by simpa using hB
 have hn:(bs.length:Int)≠0:=by simpa using hC
 have hlen:=zne hA;obtain⟨hb40,htot⟩:=zj5 hB
 have hk:(0:Int)<=q1b cs l bs t/\q1b cs l bs t<(bs.length:Int):=by
  unfold q1b;rw[show IntKind.i64.wrap t=t from wr (by omega)];exact⟨Int.tmod_nonneg _ ht.1,Int.tmod_lt_of_pos _ (by omega)⟩
 have q7:q1p cs l bs t=bs.drop (q1b cs l bs t).toNat:=by
  unfold q1p;rw[El.lst_sh _ _ _ _ (by omega),List.take_of_length_le (by rw[List.length_drop];exact Nat.le_refl _)]
 have l7:(q1p cs l bs t).length+(q1b cs l bs t).toNat=bs.length:=by rw[q7,List.length_drop];omega
 have q8:qjf cs l bs t=bs.drop (q1b cs l bs t).toNat:=by
  unfold qjf;rw[Nat.min_eq_right (Nat.le_add_right _ _),El.lst_els,q7]
 have q9:qje cs l bs t=bs.take (q1b cs l bs t).toNat:=by
  unfold qje;rw[Nat.add_sub_cancel_left,El.lst_take _ _ _ (by omega)]
 have hin:∀v∈bs,v.length<=KS:=λv hv=>by
  have:=zqw hv;unfold KS;omega
 have ho:∀v∈bs.drop (q1b cs l bs t).toNat++bs.take (q1b cs l bs t).toNat,v.length<=KS:=λv hv=>by
  rcases List.mem_append.1 hv with h|h
  .exact hin v (List.mem_of_mem_drop h)
  .exact hin v (List.mem_of_mem_take h)
 have hol:bs.length=(bs.drop (q1b cs l bs t).toNat++bs.take (q1b cs l bs t).toNat).length:=by
  rw[List.length_append,List.length_drop,List.length_take];omega
 have q10:q1i cs l bs t=q07 zm3 lo_M (bs,(bs.length:Int),0,false,(),(),(newC l).1.getD dLW,(newC l).1.getD dLW,bs.drop (q1b cs l bs t).toNat++bs.take (q1b cs l bs t).toNat):=by
  unfold q1i;rw[q3,q5,q8,q9];rfl
 have hL:=zaa bs _ ((newC l).1.getD dLW) (zfl l) hb hin ho hol
 have hL:(q1i cs l bs t).1=.ret/\(q1i cs l bs t).2.2.2.2.1=true\/(q1i cs l bs t).1=.exit 0/\HasC (q1i cs l bs t).2.2.2.2.2.2.2.1 bs.flatten/\HasC (q1i cs l bs t).2.2.2.2.2.2.2.2.1 (bs.drop (q1b cs l bs t).toNat++bs.take (q1b cs l bs t).toNat).flatten:=by
  rw[q10];exact hL
 have q11:qd4 cs l bs t=bs.flatten:=by unfold qd4;rw[q3,El.lst_els]
 have q12:q2i cs l bs t=takC ((newC l).1.getD dLW) bs.flatten:=by unfold q2i;rw[q5,q11];rfl
 have q13:q6a cs l bs t=(q1i cs l bs t).2.2.2.2.2.2.2.2.1.c:=El.lst_els ..;have q14:q3q cs l bs t=(q1i cs l bs t).2.2.2.2.2.2.2.2.1.c:=by unfold q3q;rw[El.lst_els,q13]
 have q15:q3p cs l bs t=(q1i cs l bs t).2.2.2.2.2.2.2.1.c:=El.lst_els ..;have q16:q2t cs l bs t=(q1i cs l bs t).2.2.2.2.2.2.2.1.c:=by unfold q2t;rw[El.lst_els,q15]
 have q17:q69 cs l bs t=(q2i cs l bs t).1.c:=El.lst_els ..;have q18:qd3 cs l bs t=(q2i cs l bs t).1.c:=by unfold qd3;rw[El.lst_els,q17]
 have hE:exB Ex.ret (q1i cs l bs t).1=false->(q6a cs l bs t).length<=KS/\(q3p cs l bs t).length<=KS:=λh=>by
  rcases hL with ⟨h1,_⟩|⟨_,h2,h3⟩
  .rw[h1]at h;cases h
  .rw[q13,q15];exact⟨Nat.le_trans h3.2.2.2 (by decide),Nat.le_trans h2.2.2.2 (by decide)⟩
 have h12:((q2i cs l bs t).2 !=(0:Int))=false->HasC (q2i cs l bs t).1 bs.flatten:=λh=>by
  rw[q12]at h ⊢;exact qqk (has0 (zfl l)) (by simpa using h)
 have h17:((q2i cs l bs t).2 !=(0:Int))=false->(q69 cs l bs t).length<=KS:=λh=>by
  rw[q17];exact Nat.le_trans (h12 h).2.2.2 (by decide)
 refine⟨?_,?_⟩
 .have okp:∀(e:Nat),e<l.length->ePa.Ok (ePa.els l e):=λ_ _=>El.ok_els _ _ _;have okb:∀(e:Nat),e<bs.length->eLC.Ok (eLC.els bs e):=λ_ _=>El.ok_els _ _ _;have h30:(q3r cs l bs t).length<=K30:=by rw[q1];exact Nat.le_trans hlen (by decide)
  have hkk:(0:Int)<=q1b cs l bs t/\q1b cs l bs t<=(bs.length:Int):=⟨hk.1,by omega⟩
  have hJ:ixJ (λc:qd9=>c.2.1) (λc=>c.1) lo_K (lo_f (q5i cs l bs t,(bs.length:Int),(0:Int),false,(),(),wLd.wrap ((q1k cs l bs t).1.getD dLW),wLd.wrap ((q1k cs l bs t).1.getD dLW),qjf cs l bs t++qje cs l bs t)):=by
   rw[q3,q8,q9];exact ixJ0 rfl hb ⟨hin,ho,Nat.le_of_eq hol⟩
  have byt:∀h:48<Tryz.prog.types.size,(Tryz.prog.types[(48:Nat)]'h).bytes=24:=λh=>by kernel_rfl
  have happ:(q1p cs l bs t).length<=(q1p cs l bs t).length/\(∀(e:Nat),e<(q1b cs l bs t).toNat->(eLC.els bs e).all SV.one=true)/\(q1p cs l bs t).length+(q1b cs l bs t).toNat<=maxLen/\((q1p cs l bs t).length+(q1b cs l bs t).toNat)*24<=140737488355328:=by
   rw[l7];exact⟨Nat.le_refl _,λ_ _=>eLC.one_els _ _,hb,by omega⟩
  have h1e6:(q1p cs l bs t).length<=1000000:=by omega
  have hone:∀(xs:LLC)(n:Nat)(e:Nat),e<n->∀(p:Prop),p∈[∀(e_1:Nat),e_1<(List.getD xs e eLC.dflt).length->eC.Ok (eC.els (List.getD xs e eLC.dflt) e_1)]->p:=λxs n e _ p hp=>by
   rw[List.mem_singleton.1 hp];exactλ_ _=>El.ok_els _ _ _
  have htt:totL (q5i cs l bs t)<=1000000:=by rw[q3];omega
  have h11:(qd4 cs l bs t).length<=KS:=by rw[q11,qyt];unfold KS;omega
  unfold qbn;simp only[byt];refineλ_=>⟨okp,λ_=>okb,λ_=>⟨okp,h30,λ_=>⟨okp,h30,λ_=>⟨okp,h30,λ_=>⟨λ_=>okp,λ_=>⟨hn,λ_=>⟨Nat.le_refl _,hkk,λ_ _=>El.ok_els _ _ _,h1e6,hkk,happ,okb,Nat.le_refl _,hone _ _,hone _ _,hJ,λhx=>?_⟩,λ_=>⟨Nat.le_refl _,hkk,hkk,λ_ _=>El.ok_els _ _ _,h1e6,happ,okb,Nat.le_refl _,hone _ _,hone _ _,hJ,λhx=>?_⟩⟩⟩,λ_=>okp⟩,λ_=>⟨okp,h30,λ_=>okp,λ_=>okp⟩⟩,λ_=>⟨okp,h30,λ_=>⟨okp,h30,λ_=>okp,λ_=>okp⟩,λ_=>⟨okp,h30,λ_=>okp,λ_=>okp⟩⟩⟩⟩
  all_goals exact⟨okb,htt,λ_ _=>El.ok_els _ _ _,h11,λhy=>⟨λ_ _=>El.ok_els _ _ _,(hE hx).2,λ_ _=>El.ok_els _ _ _,(hE hx).1,λ_ _=>El.ok_els _ _ _,λ_ _=>El.ok_els _ _ _,λ_ _ _=>El.ok_els _ _ _,λ_=>h17 hy,λ_ _ _=>El.ok_els _ _ _,λ_ _ _=>El.ok_els _ _ _⟩⟩
 .unfold z1o;rw[q2,q4,q5,q1,hA,hB,hC]
  have hlast:(bif exB Ex.ret (q1i cs l bs t).1 then(q1i cs l bs t).2.2.2.2.1 else bif (q2i cs l bs t).2 !=(0:Int)then true else decide (q3q cs l bs t=q2t cs l bs t)&&decide (qd3 cs l bs t=q2t cs l bs t))=true:=by
   rcases hL with ⟨h1,h2⟩|⟨h1,h2,h3⟩
   .rw[h1,h2];rfl
   .rw[h1];show(bif (q2i cs l bs t).2 !=(0:Int)then true else _)=true;cases hz:(q2i cs l bs t).2 !=(0:Int)with
    |true=>rfl
    |false=>
     have e1:q3q cs l bs t=q2t cs l bs t:=by
      rw[q14,q16];exact z3h h3 h2 λt=>zk5 _ _ t
     have e2:qd3 cs l bs t=q2t cs l bs t:=by
      rw[q18,q16];exact z3h (h12 hz) h2 λt=>rfl
     rw[e1,e2];simp
  rw[hlast];rcases za2 hl with ⟨h1,h2⟩|⟨h1,h2⟩
  .rw[h1,h2];cases(hdC cs).isEmpty<;>rfl
  .rw[h1,h2];rfl
theorem lor_ok:q09 Tryz.prog 8 aOrd q0l (λ_=>true) (λg=>[0<=g.2.2/\g.2.2<=255]):=
 zm0 _ _ λcs g hb hp=>ztb cs g.1 g.2.1 g.2.2 hb.1.1 hb.2.1.1 (hp _ (List.mem_cons_self ..))
end Go.Proofs.YthnojkbkojpadaaGreat

namespace Go.Proofs.YthnojkbkojpadaaGreat
open Go.ChangeShapes Go.WideShapes Go.ChangeAt Go.RowKit Go.Sx
set_option maxRecDepth 100000 in
theorem qbr(law:q09 Tryz.prog 8 aOrd q0l (λ_=>true) (λg=>[0<=g.2.2/\g.2.2<=255]))(os:Os)(started:os.Started)(H:Type)(enc:TypeId×Value->H):
  ReturnsInHanded {} Tryz.checked os 8 .any (Rows.ledgerOrderSpec.pre6 enc Tryz.prog Tryz.f8 Rows.ledgerOrderRow.domain false) (Rows.ledgerOrderSpec.post enc Tryz.prog Tryz.f8 false true false false):=by
 refine returnsInHanded_of_change (C:=Tryz.checked) Tryz.own started (by kernel_rfl) Tryz.func8
  (ChangeSpec.witness6 (enc:=enc) (C:=Tryz.checked) false ⟨#[],#[.slice none 0 0,.slice none 0 0,.int .u8 0],[]⟩ 8 (by kernel_rfl) (by kernel_rfl) (by kernel_rfl) (by kernel_rfl)) ?_
 intro W base args ds gs before hval0 hW hcnd _;have hval:∀(j:Nat)t v,Tryz.f8.params[j]?=some t->args[j]?=some v->Value.okWide Tryz.prog W .any base t v:=hval0;have hW':=hW;obtain⟨p,q,hA0,hV,rfl,hfz,hnd⟩:=hW;have hA:DataW.TrodAll enc Tryz.prog W 0 (λ_=>true) true Tryz.f8.params.toList args.toList ds p:=hA0;rw[Tryz.params8]at hA hval;obtain⟨v0,vs0,d0,ds0,p0,qq0,hargs,rfl,rfl,h0,r0⟩:=trodAll_cons hA;obtain⟨v1,vs1,d1,ds1,p1,qq1,rfl,rfl,rfl,h1,r1⟩:=trodAll_cons r0;obtain⟨v2,vs2,d2,ds2,p2,qq2,rfl,rfl,rfl,h2,r2⟩:=trodAll_cons r1;obtain⟨rfl,rfl,rfl⟩:=trodAll_nil r2;obtain rfl:args=#[v0,v1,v2]:=by cases args;simp_all
 obtain⟨rfl,rfl⟩:=trodVars_none hV;obtain⟨a0,q0,f0⟩:=zy0 _ _ _ _ _ _ _ _ _ _ _ (hval 0 22 v0 rfl rfl) h0;obtain⟨a1,q1,f1⟩:=zsc _ _ _ _ _ _ _ _ _ _ _ (hval 1 77 v1 rfl rfl) h1;obtain⟨a2,q2,f2⟩:=rdvU _ _ _ _ _ _ _ _ _ _ _ (hval 2 5 v2 rfl rfl) h2
 have lt:∀{t:TypeId}{v:Value}{d:DataW H}{ps:List MemPlace},DataW.Trod enc Tryz.prog W 0 (λ_=>true) true t v d ps->∀x∈ps,x.block<W.heap.size:=by
  rintro t v d ps ⟨m,hm⟩;exact DataW.trod_lt m _ _ _ hm
 clear hA0 hval0;refine(law W (λb=>W.heap[b]?) (a0,a1,a2) [v0,v1,v2] (λ_ _ h=>h) trivial (by intro p hp;rw[List.mem_singleton.1 hp];exact zxg q2) ⟨f0,f1,f2,trivial⟩).mono λe W'⟨x,he,bel,hx⟩=>?_;obtain rfl:x=.bool true:=by simpa [q0l,SV.fit]using hx
 subst he
 exact⟨_,rfl,_,_,_,[],_,[],hW',trodAll_mk1 (shut_bool Tryz.underlying4 _),
  (trodAll_cons_mk (Below.trod Tryz.laidOut (by kernel_rfl) (of_decide_eq_true (by kernel_rfl)) h0 bel (lt h0))
  (trodAll_cons_mk (Below.trod Tryz.laidOut (by kernel_rfl) (of_decide_eq_true (by kernel_rfl)) h1 bel (lt h1))
  (trodAll_cons_mk (Below.trod Tryz.laidOut (by kernel_rfl) (of_decide_eq_true (by kernel_rfl)) h2 bel (lt h2)) trodAll_mk0))),rfl,bel.frame _,λh=>by cases h⟩
theorem ledgerOrder_over(law:q09 Tryz.prog 8 aOrd q0l (λ_=>true) (λg=>[0<=g.2.2/\g.2.2<=255])):Rows.LedgerOrderSaid:=
 OpenClaim.holds_of_wide 8 Tryz.f8 rfl rfl rfl rfl rfl rfl rfl ⟨rfl,rfl,rfl,rfl,rfl⟩ rfl rfl rfl rfl rfl (by kernel_rfl) Tryz.func8 (by kernel_rfl)
  (of_decide_eq_true (by kernel_rfl)) (by unfold Func.isWrapper;first|(rw[if_pos (by decide+kernel)];kernel_rfl)|(rw[if_neg (by decide+kernel)];exact⟨rfl,rfl⟩))
  (λos started H enc _=>qbr law os started H enc)
end Go.Proofs.YthnojkbkojpadaaGreat

namespace Go.Proofs.YthnojkbkojpadaaGreat
open Go.RowKit Go.Sx
theorem ledgerOrder_holds:Rows.LedgerOrderSaid:=ledgerOrder_over lor_ok
end Go.Proofs.YthnojkbkojpadaaGreat
