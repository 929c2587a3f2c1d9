/- Ledger: the document's sums, add; the loop within Net: contracts. -/
import Derived.Test.YthnojkbkojpadaaGreatZG09e80002
import Derived.Test.YthnojkbkojpadaaGreatZG06943424
import Derived.Test.YthnojkbkojpadaaGreatZG08e37e95
import Derived.Test.YthnojkbkojpadaaGreatZG07de90b3
set_option linter.unusedVariables false
set_option linter.unusedSimpArgs false
set_option linter.constructorNameAsVariable false
set_option linter.all false

namespace Go.Proofs.YthnojkbkojpadaaGreat
open Go.RowKit Go.Sx Go.Lp
set_option maxRecDepth 100000
noncomputable def sameK (a b:Change):Bool:=decide (a.p=b.p)&&eqT a.t b.t
noncomputable def rsu_S (c:rsu_GC) (b:rsu_GB) (_:Int) (v:Change):Ex×rsu_GB:=bif sameK v c.2&&rby_F v.n then (.ret,((),b.2.1,b.2.2.1,0,false)) else (.normal,((),bif sameK v c.2 then IntKind.i64.wrap (b.2.1+v.n) else b.2.1,bif sameK v c.2 then IntKind.i64.wrap (b.2.2.1+1) else b.2.2.1,b.2.2.2))
def rsu_K (_:rsu_GC) (_:rsu_GB) (_:Int):Prop:=True
abbrev rsu_I (g:rsu_G):List Prop:=ixI (fun c:rsu_GC=>(c.1.length:Int)) (fun c=>c.1) rsu_K (rsu_f g)
abbrev rsu_M (g:rsu_G):Nat:=ixM (fun c:rsu_GC=>(c.1.length:Int)) (rsu_f g)
theorem rsu_P:ixP rsu_S (fun c:rsu_GC=>c.1) rsu_K:=fun _ _ _ _ h _ _=>h
noncomputable abbrev rsu_RR (g:rsu_G):Ex×rsu_G:=rsu_R g.1 g.2.1 g.2.2.1 g.2.2.2.1 g.2.2.2.2.1 g.2.2.2.2.2.1 g.2.2.2.2.2.2.1 g.2.2.2.2.2.2.2
theorem rsu_RF (d:Int×rsu_GC×rsu_GB) (_:allP (ixI (fun c:rsu_GC=>(c.1.length:Int)) (fun c=>c.1) rsu_K d)):rsu_RR (rsu_g d)=((ixF 0 (fun c:rsu_GC=>(c.1.length:Int)) (fun c=>c.1) eC.dflt rsu_S d).1,rsu_g (ixF 0 (fun c:rsu_GC=>(c.1.length:Int)) (fun c=>c.1) eC.dflt rsu_S d).2):=by
 obtain ⟨i,⟨xs,c⟩,⟨⟨⟩,n,m,r,o⟩⟩:=d
 show rsu_R xs () c i n m r o=_
 unfold rsu_R ixF rsu_S sameK rby_F
 simp only[El.ag_eq,conjP,conj_T]
 generalize (xs.getD i.toNat eC.dflt)=v
 cases decide (i<(xs.length:Int)) with
 | false=>rfl
 | true=>
  simp only[cond_true]
  generalize (decide (v.p=c.p)&&eqT v.t c.t)=z
  generalize (decide (v.n > (1099511627776:Int))||decide (v.n<(-1099511627776:Int)))=y
  cases z <;> cases y <;> rfl
theorem rsu_ok:∀ b∈loopsOf Tryz.prog 76,lkey b=4→LoopOk Tryz.prog b (rsu_C rsu_I rsu_M).g:=by
 refine rsu_loop rsu_I rsu_M (fun g hi=>?_) (ix_conj_goes (fun _=>rfl) (fun _=>rfl) rsu_RF rsu_P)
 obtain ⟨xs,⟨⟩,c,i,n,m,r,o⟩:=g
 obtain ⟨h1,h2,h3,h4,h5⟩:=hi _ (List.mem_cons_self ..)
 have h3:0≤i:=h3
 show rsu_side xs () c i n m r o
 unfold rsu_side
 simp only[El.okL_eq,El.ag_eq]
 refine ⟨fun hlt=>?_,fun _=>?_⟩
 ·have hr:=rngP i _ _ rfl h3 hlt
  repeat' (first | exact hr | apply And.intro | intro _)
  all_goals first | trivial | rfl | omega
 ·repeat' (first | apply And.intro | intro _)
  all_goals first | trivial | rfl | omega
noncomputable def radX (c v:Change):Change:=⟨v.p,v.t,bif ror_F c v==(0:Int) then IntKind.i64.wrap (v.n+c.n) else v.n⟩
noncomputable def rad_S (c:rad_GC) (b:rad_GB) (_:Int) (v:Change):Ex×rad_GB:=(.normal,((),bif !b.2.2.1&&decide (ror_F c.2 v<(0:Int)) then (b.2.1++[c.2])++[radX c.2 v] else b.2.1++[radX c.2 v],bif !b.2.2.1&&decide (ror_F c.2 v<(0:Int)) then true else ror_F c.2 v==(0:Int)||b.2.2.1,bif ror_F c.2 v==(0:Int) then !rby_F (IntKind.i64.wrap (v.n+c.2.n)) else b.2.2.2))
def rad_K (c:rad_GC) (b:rad_GB) (i:Int):Prop:=c.1.length≤KS∧(List.length b.2.1:Int)≤i+(bif b.2.2.1 then 1 else 0)
abbrev rad_I (g:rad_G):List Prop:=ixI (fun c:rad_GC=>(c.1.length:Int)) (fun c=>c.1) rad_K (rad_f g)
abbrev rad_M (g:rad_G):Nat:=ixM (fun c:rad_GC=>(c.1.length:Int)) (rad_f g)
theorem rad_P:ixP rad_S (fun c:rad_GC=>c.1) rad_K:=by
 rintro ⟨xs,c⟩ ⟨⟨⟩,o,b,k⟩ i v ⟨h1,h2⟩ _ _
 refine ⟨h1,?_⟩
 have h2:(List.length o:Int)≤(i:Int)+(bif b then 1 else 0):=h2
 show (List.length (bif !b&&decide (ror_F c v<(0:Int)) then (o++[c])++[radX c v] else o++[radX c v]):Int)≤(i:Int)+1+(bif (bif !b&&decide (ror_F c v<(0:Int)) then true else ror_F c v==(0:Int)||b) then 1 else 0)
 generalize decide (ror_F c v<(0:Int))=z
 generalize (ror_F c v==(0:Int))=y
 cases b <;> cases z <;> cases y <;> simp only[Bool.not_true,Bool.not_false,Bool.false_and,Bool.true_and,cond_true,cond_false,Bool.or_true,Bool.or_false,Bool.false_or,Bool.true_or,List.length_append,List.length_cons,List.length_nil] at h2 ⊢ <;> omega
noncomputable abbrev rad_RR (g:rad_G):Ex×rad_G:=rad_R g.1 g.2.1 g.2.2.1 g.2.2.2.1 g.2.2.2.2.1 g.2.2.2.2.2.1 g.2.2.2.2.2.2
theorem app2C (out:List Change) (s y:Change):eC.lst (min (min (out.length+1+1) (out.length+1)) out.length) (eC.els out)++List.map (fun _=>s) (List.range (min (out.length+1+1) (out.length+1) - out.length))++List.map (fun _=>y) (List.range (out.length+1+1 - (out.length+1)))=(out++[s])++[y]:=by
 rw[Nat.min_eq_right (Nat.le_succ (out.length+1)),Nat.min_eq_right (Nat.le_succ _),El.lst_els,Nat.add_sub_cancel_left,Nat.add_sub_cancel_left];rfl
theorem rad_RF (d:Int×rad_GC×rad_GB) (_:allP (ixI (fun c:rad_GC=>(c.1.length:Int)) (fun c=>c.1) rad_K d)):rad_RR (rad_g d)=((ixF 0 (fun c:rad_GC=>(c.1.length:Int)) (fun c=>c.1) eC.dflt rad_S d).1,rad_g (ixF 0 (fun c:rad_GC=>(c.1.length:Int)) (fun c=>c.1) eC.dflt rad_S d).2):=by
 obtain ⟨i,⟨xs,c⟩,⟨⟨⟩,o,b,k⟩⟩:=d
 show rad_R xs () c i o b k=_
 unfold rad_R ixF rad_S radX rby_F
 simp only[El.ag_eq,app2C,lst_snoc]
 generalize (xs.getD i.toNat eC.dflt)=v
 have e:(bif decide (c.p.node<v.p.node) then (-1:Int) else bif decide (c.p.node > v.p.node) then (1:Int) else bif decide (c.p.port<v.p.port) then (-1:Int) else bif decide (c.p.port > v.p.port) then (1:Int) else rtcmp_F c.t v.t)=ror_F c v:=rfl
 simp only[e]
 generalize (!b&&decide (ror_F c v<(0:Int)))=z
 cases decide (i<(xs.length:Int)) with
 | false=>rfl
 | true=>cases z <;> rfl
theorem rad_ok:∀ b∈loopsOf Tryz.prog 77,lkey b=7→LoopOk Tryz.prog b (rad_C rad_I rad_M).g:=by
 refine rad_loop rad_I rad_M (fun g hi=>?_) (ix_conj_goes (fun _=>rfl) (fun _=>rfl) rad_RF rad_P)
 obtain ⟨xs,⟨⟩,c,i,o,b,k⟩:=g
 obtain ⟨h1,h2,h3,h4,h5,h6⟩:=hi _ (List.mem_cons_self ..)
 have h3:0≤i:=h3
 have h4:i≤(xs.length:Int):=h4
 have h5:xs.length≤1000000:=h5
 have h6:(o.length:Int)≤i+(bif b then 1 else 0):=h6
 have h7:o.length≤1000001:=by cases b <;> simp only[cond_true,cond_false] at h6 <;> omega
 show rad_side xs () c i o b k
 unfold rad_side
 simp only[El.okL_eq,El.ag_eq,byt59]
 refine ⟨fun hlt=>?_,fun _=>?_⟩
 ·have hr:=rngP i _ _ rfl h3 hlt
  repeat' (first | exact hr | apply And.intro | intro _)
  all_goals first | trivial | rfl | omega | (unfold maxLen;omega)
 ·repeat' (first | apply And.intro | intro _)
  all_goals first | trivial | rfl | omega
end Go.Proofs.YthnojkbkojpadaaGreat

namespace Go.Proofs.YthnojkbkojpadaaGreat
open Go.RowKit Go.Sx
set_option maxRecDepth 100000
set_option linter.unusedVariables false
abbrev MPk:Type:=List ((Place×T)×Int×Int)×Nat
noncomputable def nb_q1 (xs:List Change) (n:Int) (i:Int) (_u:Unit) (mp:MPk) (_v:Unit) (r:Int):Nat:=
 kfind (fun e=>(xs.getD i.toNat eC.dflt).p.node==(mp.fst.getD e (eKy.ent eI).dflt).fst.fst.node&&((xs.getD i.toNat eC.dflt).p.port==(mp.fst.getD e (eKy.ent eI).dflt).fst.fst.port&&((xs.getD i.toNat eC.dflt).t.e==(mp.fst.getD e (eKy.ent eI).dflt).fst.snd.e&&((xs.getD i.toNat eC.dflt).t.d==(mp.fst.getD e (eKy.ent eI).dflt).fst.snd.d&&((xs.getD i.toNat eC.dflt).t.l0==(mp.fst.getD e (eKy.ent eI).dflt).fst.snd.l0&&((xs.getD i.toNat eC.dflt).t.l1==(mp.fst.getD e (eKy.ent eI).dflt).fst.snd.l1&&((xs.getD i.toNat eC.dflt).t.l2==(mp.fst.getD e (eKy.ent eI).dflt).fst.snd.l2&&(xs.getD i.toNat eC.dflt).t.l3==(mp.fst.getD e (eKy.ent eI).dflt).fst.snd.l3))))))) mp.fst.length (0:Nat)
noncomputable def nb_q2 (xs:List Change) (n:Int) (i:Int) (_u:Unit) (mp:MPk) (_v:Unit) (r:Int):Nat:=
 kfind (fun e=>((xs.getD i.toNat eC.dflt).p.node==bif decide (e=(nb_q1 xs n i _u mp _v r)) then (xs.getD i.toNat eC.dflt).p.node else (mp.fst.getD e (eKy.ent eI).dflt).fst.fst.node)&&(((xs.getD i.toNat eC.dflt).p.port==bif decide (e=(nb_q1 xs n i _u mp _v r)) then (xs.getD i.toNat eC.dflt).p.port else (mp.fst.getD e (eKy.ent eI).dflt).fst.fst.port)&&(((xs.getD i.toNat eC.dflt).t.e==bif decide (e=(nb_q1 xs n i _u mp _v r)) then (xs.getD i.toNat eC.dflt).t.e else (mp.fst.getD e (eKy.ent eI).dflt).fst.snd.e)&&(((xs.getD i.toNat eC.dflt).t.d==bif decide (e=(nb_q1 xs n i _u mp _v r)) then (xs.getD i.toNat eC.dflt).t.d else (mp.fst.getD e (eKy.ent eI).dflt).fst.snd.d)&&(((xs.getD i.toNat eC.dflt).t.l0==bif decide (e=(nb_q1 xs n i _u mp _v r)) then (xs.getD i.toNat eC.dflt).t.l0 else (mp.fst.getD e (eKy.ent eI).dflt).fst.snd.l0)&&(((xs.getD i.toNat eC.dflt).t.l1==bif decide (e=(nb_q1 xs n i _u mp _v r)) then (xs.getD i.toNat eC.dflt).t.l1 else (mp.fst.getD e (eKy.ent eI).dflt).fst.snd.l1)&&(((xs.getD i.toNat eC.dflt).t.l2==bif decide (e=(nb_q1 xs n i _u mp _v r)) then (xs.getD i.toNat eC.dflt).t.l2 else (mp.fst.getD e (eKy.ent eI).dflt).fst.snd.l2)&&(xs.getD i.toNat eC.dflt).t.l3==bif decide (e=(nb_q1 xs n i _u mp _v r)) then (xs.getD i.toNat eC.dflt).t.l3 else (mp.fst.getD e (eKy.ent eI).dflt).fst.snd.l3))))))) (bif decide ((nb_q1 xs n i _u mp _v r)<mp.fst.length) then mp.fst.length else mp.fst.length+(1:Nat)) (0:Nat)
abbrev nb_G:Type:=List Change×Int×Int×Unit×MPk×Unit×Int
noncomputable def nb_LP:LP 1 nb_G:=.pair (.slot 1 11 dLC) (.pair (.slot 1 12 dI) (.pair (.slot 1 13 dI) (.pair (.fix 1 4 (.mp 0)) (.pair (.mapO 1 0 true false eKy eI) (.pair (.fix 1 2 (.k (.slice none 0 0))) (.slot 1 3 dI))))))
noncomputable def nb_R (xs:List Change) (n:Int) (i:Int) (_u:Unit) (mp:MPk) (_v:Unit) (r:Int):Ex×nb_G:=
 bif decide (i<n) then bif !(decide ((xs.getD i.toNat eC.dflt).n≥(-1099511627776:Int))&&decide ((xs.getD i.toNat eC.dflt).n≤(1099511627776:Int))) then (Ex.ret,eC.ag xs,n,i,(),((eKy.ent eI).ag mp.fst,mp.snd),(),(150:Int)) else (Ex.normal,eC.ag xs,n,IntKind.i64.wrap (i+(1:Int)),(),(((eKy.ent eI).lst (bif decide ((nb_q1 xs n i _u mp _v r)<mp.fst.length) then mp.fst.length else mp.fst.length+(1:Nat)) ((eKy.ent eI).els mp.fst)).set (nb_q1 xs n i _u mp _v r) (((xs.getD i.toNat eC.dflt).p,(xs.getD i.toNat eC.dflt).t),IntKind.i64.wrap ((bif decide ((nb_q1 xs n i _u mp _v r)<mp.fst.length) then (mp.fst.getD (nb_q1 xs n i _u mp _v r) (eKy.ent eI).dflt).snd.fst else (0:Int))+(xs.getD i.toNat eC.dflt).n),bif decide ((nb_q1 xs n i _u mp _v r)<mp.fst.length) then (mp.fst.getD (nb_q1 xs n i _u mp _v r) (eKy.ent eI).dflt).snd.snd else (↑mp.snd:Int)),bif decide ((nb_q1 xs n i _u mp _v r)<mp.fst.length) then mp.snd else mp.snd+(1:Nat)),(),r)
 else (Ex.exit (0:Nat),eC.ag xs,n,i,(),((eKy.ent eI).ag mp.fst,mp.snd),(),r)
def nb_side (xs:List Change) (n:Int) (i:Int) (_u:Unit) (mp:MPk) (_v:Unit) (r:Int):Prop:=
 (decide (i<n)=true→((0:Int)≤i∧i<(↑xs.length:Int))∧((!(decide ((xs.getD i.toNat eC.dflt).n≥(-1099511627776:Int))&&decide ((xs.getD i.toNat eC.dflt).n≤(1099511627776:Int))))=true→eC.okL xs∧∀ (e:Nat),e<mp.fst.length→True)∧((!(decide ((xs.getD i.toNat eC.dflt).n≥(-1099511627776:Int))&&decide ((xs.getD i.toNat eC.dflt).n≤(1099511627776:Int))))=false→∀ (cs:List Nat),(cs.isEmpty=true→(∀ (e:Nat),e<mp.fst.length→(10:Nat)=(10:Nat))∧(∀ (e:Nat),e<mp.fst.length→True)∧(∀ (e:Nat),e<mp.fst.length→(10:Nat)=(10:Nat))∧(∀ (e:Nat),e<mp.fst.length→True)∧((bif decide ((nb_q1 xs n i _u mp _v r)<mp.fst.length) then (mp.fst.getD (nb_q1 xs n i _u mp _v r) (eKy.ent eI).dflt).snd.snd else (↑mp.snd:Int))=bif decide ((nb_q1 xs n i _u mp _v r)<mp.fst.length) then (mp.fst.getD (nb_q1 xs n i _u mp _v r) (eKy.ent eI).dflt).snd.snd else (↑mp.snd:Int))∧eC.okL xs∧True∧(∀ (e:Nat),(e<bif decide ((nb_q1 xs n i _u mp _v r)<mp.fst.length) then mp.fst.length else mp.fst.length+(1:Nat))→True)∧∀ (d:Ex×List Change×Int×Int×Unit×(List ((Place×T)×Int×Int)×Nat)×Unit×Int),(Ex.normal,eC.ag xs,n,IntKind.i64.wrap (i+(1:Int)),(),(((eKy.ent eI).lst (bif decide ((nb_q1 xs n i _u mp _v r)<mp.fst.length) then mp.fst.length else mp.fst.length+(1:Nat)) ((eKy.ent eI).els mp.fst)).set (nb_q1 xs n i _u mp _v r) (((xs.getD i.toNat eC.dflt).p,(xs.getD i.toNat eC.dflt).t),IntKind.i64.wrap ((bif decide ((nb_q1 xs n i _u mp _v r)<mp.fst.length) then (mp.fst.getD (nb_q1 xs n i _u mp _v r) (eKy.ent eI).dflt).snd.fst else (0:Int))+(xs.getD i.toNat eC.dflt).n),bif decide ((nb_q1 xs n i _u mp _v r)<mp.fst.length) then (mp.fst.getD (nb_q1 xs n i _u mp _v r) (eKy.ent eI).dflt).snd.snd else (↑mp.snd:Int)),bif decide ((nb_q1 xs n i _u mp _v r)<mp.fst.length) then mp.snd else mp.snd+(1:Nat)),(),r)=(Ex.normal,eC.ag xs,n,IntKind.i64.wrap (i+(1:Int)),(),(((eKy.ent eI).lst (bif decide ((nb_q1 xs n i _u mp _v r)<mp.fst.length) then mp.fst.length else mp.fst.length+(1:Nat)) ((eKy.ent eI).els mp.fst)).set (nb_q1 xs n i _u mp _v r) (((xs.getD i.toNat eC.dflt).p,(xs.getD i.toNat eC.dflt).t),IntKind.i64.wrap ((bif decide ((nb_q1 xs n i _u mp _v r)<mp.fst.length) then (mp.fst.getD (nb_q1 xs n i _u mp _v r) (eKy.ent eI).dflt).snd.fst else (0:Int))+(xs.getD i.toNat eC.dflt).n),bif decide ((nb_q1 xs n i _u mp _v r)<mp.fst.length) then (mp.fst.getD (nb_q1 xs n i _u mp _v r) (eKy.ent eI).dflt).snd.snd else (↑mp.snd:Int)),bif decide ((nb_q1 xs n i _u mp _v r)<mp.fst.length) then mp.snd else mp.snd+(1:Nat)),(),r))∧(cs.isEmpty=false→(∀ (e:Nat),e<mp.fst.length→(10:Nat)=(10:Nat))∧(∀ (e:Nat),e<mp.fst.length→True)∧(∀ (e:Nat),(e<bif decide ((nb_q1 xs n i _u mp _v r)<mp.fst.length) then mp.fst.length else mp.fst.length+(1:Nat))→(10:Nat)=(10:Nat))∧(∀ (e:Nat),(e<bif decide ((nb_q1 xs n i _u mp _v r)<mp.fst.length) then mp.fst.length else mp.fst.length+(1:Nat))→True)∧((bif decide ((nb_q1 xs n i _u mp _v r)<mp.fst.length) then (mp.fst.getD (nb_q1 xs n i _u mp _v r) (eKy.ent eI).dflt).snd.snd else (↑mp.snd:Int))=bif decide ((nb_q1 xs n i _u mp _v r)<mp.fst.length) then (mp.fst.getD (nb_q1 xs n i _u mp _v r) (eKy.ent eI).dflt).snd.snd else (↑mp.snd:Int))∧eC.okL xs∧True∧(∀ (e:Nat),(e<bif decide ((nb_q1 xs n i _u mp _v r)<mp.fst.length) then mp.fst.length else mp.fst.length+(1:Nat))→True)∧∀ (d:Ex×List Change×Int×Int×Unit×(List ((Place×T)×Int×Int)×Nat)×Unit×Int),(Ex.normal,eC.ag xs,n,IntKind.i64.wrap (i+(1:Int)),(),(((eKy.ent eI).lst (bif decide ((nb_q1 xs n i _u mp _v r)<mp.fst.length) then mp.fst.length else mp.fst.length+(1:Nat)) ((eKy.ent eI).els mp.fst)).set (nb_q1 xs n i _u mp _v r) (((xs.getD i.toNat eC.dflt).p,(xs.getD i.toNat eC.dflt).t),IntKind.i64.wrap ((bif decide ((nb_q2 xs n i _u mp _v r)<bif decide ((nb_q1 xs n i _u mp _v r)<mp.fst.length) then mp.fst.length else mp.fst.length+(1:Nat)) then bif decide ((nb_q2 xs n i _u mp _v r)=(nb_q1 xs n i _u mp _v r)) then bif decide ((nb_q1 xs n i _u mp _v r)<mp.fst.length) then (mp.fst.getD (nb_q1 xs n i _u mp _v r) (eKy.ent eI).dflt).snd.fst else (0:Int) else (mp.fst.getD (nb_q2 xs n i _u mp _v r) (eKy.ent eI).dflt).snd.fst else (0:Int))+(xs.getD i.toNat eC.dflt).n),bif decide ((nb_q1 xs n i _u mp _v r)<mp.fst.length) then (mp.fst.getD (nb_q1 xs n i _u mp _v r) (eKy.ent eI).dflt).snd.snd else (↑mp.snd:Int)),bif decide ((nb_q1 xs n i _u mp _v r)<mp.fst.length) then mp.snd else mp.snd+(1:Nat)),(),r)=(Ex.normal,eC.ag xs,n,IntKind.i64.wrap (i+(1:Int)),(),(((eKy.ent eI).lst (bif decide ((nb_q1 xs n i _u mp _v r)<mp.fst.length) then mp.fst.length else mp.fst.length+(1:Nat)) ((eKy.ent eI).els mp.fst)).set (nb_q1 xs n i _u mp _v r) (((xs.getD i.toNat eC.dflt).p,(xs.getD i.toNat eC.dflt).t),IntKind.i64.wrap ((bif decide ((nb_q1 xs n i _u mp _v r)<mp.fst.length) then (mp.fst.getD (nb_q1 xs n i _u mp _v r) (eKy.ent eI).dflt).snd.fst else (0:Int))+(xs.getD i.toNat eC.dflt).n),bif decide ((nb_q1 xs n i _u mp _v r)<mp.fst.length) then (mp.fst.getD (nb_q1 xs n i _u mp _v r) (eKy.ent eI).dflt).snd.snd else (↑mp.snd:Int)),bif decide ((nb_q1 xs n i _u mp _v r)<mp.fst.length) then mp.snd else mp.snd+(1:Nat)),(),r))))∧(decide (i<n)=false→eC.okL xs∧∀ (e:Nat),e<mp.fst.length→True)
theorem nb_one:((loopsOf Tryz.prog 29).filter fun c=>Nat.beq (lkey c) 5).length=1:=by kernel_rfl
abbrev nb_GC:Type:=List Change×Int
abbrev nb_GB:Type:=Unit×MPk×Unit×Int
def nb_f (g:nb_G):Int×nb_GC×nb_GB:=(g.2.2.1,(g.1,g.2.1),(g.2.2.2.1,g.2.2.2.2.1,g.2.2.2.2.2.1,g.2.2.2.2.2.2))
def nb_g (d:Int×nb_GC×nb_GB):nb_G:=(d.2.1.1,d.2.1.2,d.1,d.2.2.1,d.2.2.2.1,d.2.2.2.2.1,d.2.2.2.2.2)
theorem nb_es (g:nb_G):(nb_R g.1 g.2.1 g.2.2.1 g.2.2.2.1 g.2.2.2.2.1 g.2.2.2.2.2.1 g.2.2.2.2.2.2).1=.normal∨(nb_R g.1 g.2.1 g.2.2.1 g.2.2.2.1 g.2.2.2.2.1 g.2.2.2.2.2.1 g.2.2.2.2.2.2).1∈([.ret,.exit 0]:List Ex):=by
 unfold nb_R
 repeat' (first | (left;rfl) | (right;simp only[cond_true,cond_false];simp;done) | (rw[Bool.cond_eq_ite];split))
noncomputable abbrev nb_C (Inv:nb_G→List Prop) (m:nb_G→Nat):LCon:=loopR [.ret,.exit 0] (loopBody Tryz.prog 29 5) nb_LP [] 39 Inv (fun g=>nb_R g.1 g.2.1 g.2.2.1 g.2.2.2.1 g.2.2.2.2.1 g.2.2.2.2.2.1 g.2.2.2.2.2.2) m
theorem nb_loop (Inv:nb_G→List Prop) (m:nb_G→Nat) (hs:∀ g,allP (Inv g)→nb_side g.1 g.2.1 g.2.2.1 g.2.2.2.1 g.2.2.2.2.1 g.2.2.2.2.2.1 g.2.2.2.2.2.2) (hg:Goes (fun g:nb_G=>nb_R g.1 g.2.1 g.2.2.1 g.2.2.2.1 g.2.2.2.2.1 g.2.2.2.2.2.1 g.2.2.2.2.2.2) m fun g=>allP (Inv g)):∀ b∈loopsOf Tryz.prog 29,lkey b=5→LoopOk Tryz.prog b (nb_C Inv m).g:=loop_run (Γ:=(MTab.gamz tabN0 [] [])) (Λ:=lamN2a) (MTab.okz tabN0 [] []) lamN2a_ok 100 29 5 39 nb_LP [] Inv (fun g=>nb_R g.1 g.2.1 g.2.2.1 g.2.2.2.1 g.2.2.2.2.1 g.2.2.2.2.2.1 g.2.2.2.2.2.2) (fun g=>nb_side g.1 g.2.1 g.2.2.1 g.2.2.2.1 g.2.2.2.2.1 g.2.2.2.2.2.1 g.2.2.2.2.2.2) m default [.ret,.exit 0] nb_one (fun rd T B HL HB ds g=>by kernel_rfl) (fun rd T B HL HB ds g=>by kernel_rfl) hs hg nb_es
noncomputable def nor_q1 (cs:List Nat) (_u:Unit) (mp:MPk) (it:List Int×Nat) (o:List Change):List
 Nat:=
 leftI (fun e=>(mp.fst.getD e (eKy.ent eI).dflt).snd.snd) mp.fst.length (fun k=>it.fst.getD k (eInt IntKind.i64).dflt) it.fst.length
noncomputable def nor_q2 (cs:List Nat) (_u:Unit) (mp:MPk) (it:List Int×Nat) (o:List Change):Nat:=
 pickI (nor_q1 cs _u mp it o) (hdC cs)
noncomputable def nor_q3 (cs:List Nat) (_u:Unit) (mp:MPk) (it:List Int×Nat) (o:List Change):Nat:=
 kfind (fun e=>(mp.fst.getD e (eKy.ent eI).dflt).snd.snd==(mp.fst.getD (nor_q2 cs _u mp it o) (eKy.ent eI).dflt).snd.snd) mp.fst.length (0:Nat)
abbrev nor_G:Type:=Unit×MPk×(List Int×Nat)×List Change
noncomputable def nor_LP:LP 2 nor_G:=.pair (.fix 2 7 (.p 1 0)) (.pair (.mapO 2 0 true false eKy eI) (.pair (.mit 2 1 0) (.row 2 3 59 eC)))
noncomputable def nor_R (cs:List Nat) (_u:Unit) (mp:MPk) (it:List Int×Nat) (o:List Change):Ex×nor_G:=
 bif decide ((nor_q1 cs _u mp it o).length=(0:Nat)) then (Ex.exit (0:Nat),(),((eKy.ent eI).lst mp.fst.length ((eKy.ent eI).els mp.fst),mp.snd),((eInt IntKind.i64).lst it.fst.length ((eInt IntKind.i64).els it.fst),it.snd),eC.lst o.length (eC.els o))
 else bif (mp.fst.getD (nor_q3 cs _u mp it o) (eKy.ent eI).dflt).snd.fst != (0:Int) then (Ex.normal,(),((eKy.ent eI).lst mp.fst.length ((eKy.ent eI).els mp.fst),mp.snd),((eInt IntKind.i64).lst (min (it.fst.length+(1:Nat)) it.fst.length) ((eInt IntKind.i64).els it.fst)++List.map (fun x=>(mp.fst.getD (nor_q2 cs _u mp it o) (eKy.ent eI).dflt).snd.snd) (List.range (it.fst.length+(1:Nat) - it.fst.length)),it.snd),eC.lst (min (o.length+(1:Nat)) o.length) (eC.els o)++List.map (fun x=>Change.mk (mp.fst.getD (nor_q3 cs _u mp it o) (eKy.ent eI).dflt).fst.fst (mp.fst.getD (nor_q3 cs _u mp it o) (eKy.ent eI).dflt).fst.snd (mp.fst.getD (nor_q3 cs _u mp it o) (eKy.ent eI).dflt).snd.fst) (List.range (o.length+(1:Nat) - o.length))) else (Ex.normal,(),((eKy.ent eI).lst mp.fst.length ((eKy.ent eI).els mp.fst),mp.snd),((eInt IntKind.i64).lst (min (it.fst.length+(1:Nat)) it.fst.length) ((eInt IntKind.i64).els it.fst)++List.map (fun x=>(mp.fst.getD (nor_q2 cs _u mp it o) (eKy.ent eI).dflt).snd.snd) (List.range (it.fst.length+(1:Nat) - it.fst.length)),it.snd),eC.lst o.length (eC.els o))
def nor_side (cs:List Nat) (_u:Unit) (mp:MPk) (it:List Int×Nat) (o:List Change):Prop:=
 (it.snd=mp.snd∧it.snd=mp.snd)∧(∀ (e:Nat),e<mp.fst.length→True)∧(∀ (k:Nat),k<it.fst.length→True)∧(decide ((nor_q1 cs _u mp it o).length=(0:Nat))=true→(∀ (e:Nat),e<mp.fst.length→True)∧it.snd=it.snd∧(∀ (e:Nat),e<it.fst.length→True)∧o.length≤o.length∧∀ (e:Nat),e<o.length→True)∧(decide ((nor_q1 cs _u mp it o).length=(0:Nat))=false→it.snd=mp.snd∧(∀ (e:Nat),e<mp.fst.length→True)∧True∧(nor_q3 cs _u mp it o)<mp.fst.length∧(((mp.fst.getD (nor_q3 cs _u mp it o) (eKy.ent eI).dflt).snd.fst != (0:Int))=true→(o.length≤o.length∧True∧o.length+(1:Nat)≤maxLen∧(o.length+(1:Nat)) * Tryz.prog.types[(59:Nat)].bytes≤(140737488355328:Nat))∧(∀ (e:Nat),e<mp.fst.length→True)∧it.snd=it.snd∧(∀ (e:Nat),e<min (it.fst.length+(1:Nat)) it.fst.length→True)∧(∀ (e:Nat),e<it.fst.length+(1:Nat) - it.fst.length→True)∧o.length+(1:Nat)≤o.length+(1:Nat)∧(∀ (e:Nat),e<min (o.length+(1:Nat)) o.length→True)∧∀ (e:Nat),e<o.length+(1:Nat) - o.length→True)∧(((mp.fst.getD (nor_q3 cs _u mp it o) (eKy.ent eI).dflt).snd.fst != (0:Int))=false→(∀ (e:Nat),e<mp.fst.length→True)∧it.snd=it.snd∧(∀ (e:Nat),e<min (it.fst.length+(1:Nat)) it.fst.length→True)∧(∀ (e:Nat),e<it.fst.length+(1:Nat) - it.fst.length→True)∧o.length≤o.length∧∀ (e:Nat),e<o.length→True))
theorem nor_one:((loopsOf Tryz.prog 73).filter fun c=>Nat.beq (lkey c) 3).length=1:=by kernel_rfl
abbrev nor_E:List Ex:=[.exit 0]
theorem nor_es (cs:List Nat) (g:nor_G):(nor_R cs g.1 g.2.1 g.2.2.1 g.2.2.2).1=.normal∨(nor_R cs g.1 g.2.1 g.2.2.1 g.2.2.2).1∈nor_E:=by
 unfold nor_R
 repeat' (first | (left;rfl) | (right;simp only[cond_true,cond_false];simp;done) | (rw[Bool.cond_eq_ite];split))
noncomputable abbrev nor_F (cs:List Nat) (g:nor_G):Ex×nor_G:=nor_R cs g.1 g.2.1 g.2.2.1 g.2.2.2
noncomputable abbrev nor_C (Inv:nor_G→List Prop) (m:nor_G→Nat):LCon:=loopRA nor_E (loopBody Tryz.prog 73 3) nor_LP [] 27 Inv nor_F m
theorem nor_loop (Inv:nor_G→List Prop) (m:nor_G→Nat) (hs:∀ cs g,allP (Inv g)→nor_side cs g.1 g.2.1 g.2.2.1 g.2.2.2) (hg:GoesA nor_F m fun g=>allP (Inv g)):∀ b∈loopsOf Tryz.prog 73,lkey b=3→LoopOk Tryz.prog b (nor_C Inv m).g:=loop_runA (Γ:=(MTab.gamz tabN0 [] [])) (Λ:=lamN2a) (MTab.okz tabN0 [] []) lamN2a_ok 100 73 3 27 nor_LP [] Inv nor_F (fun cs g=>nor_side cs g.1 g.2.1 g.2.2.1 g.2.2.2) m default nor_E nor_one (fun rd T B HL HB ds cs g=>by kernel_rfl) (fun rd T B HL HB ds cs g=>by kernel_rfl) hs hg nor_es
end Go.Proofs.YthnojkbkojpadaaGreat

namespace Go.Proofs.YthnojkbkojpadaaGreat
open Go.RowKit Go.Sx Go.Lp
set_option maxRecDepth 100000
noncomputable abbrev dK:MK:=(eKy.ent eI).dflt
theorem eqKy (a:Place) (t:T) (k:Ky):(a.node==k.1.node&&(a.port==k.1.port&&(t.e==k.2.e&&(t.d==k.2.d&&(t.l0==k.2.l0&&(t.l1==k.2.l1&&(t.l2==k.2.l2&&t.l3==k.2.l3)))))))=decide ((a,t)=k):=by
 obtain ⟨a1,a2⟩:=a
 obtain ⟨e,d,p0,p1,p2,p3⟩:=t
 obtain ⟨⟨b1,b2⟩,⟨e',d',p0',p1',p2',p3'⟩⟩:=k
 rw[Bool.eq_iff_iff]
 simp[and_assoc]
def keyC (c:Change):Ky:=(c.p,c.t)
def addW (b n:Int):Int:=IntKind.i64.wrap (b+n)
noncomputable def mputC (m:List MK×Nat) (x:Change):List MK×Nat:=mputG keyC Change.n addW 0 dK m x
noncomputable def nb_S (_:nb_GC) (b:nb_GB) (_:Int) (v:Change):Ex×nb_GB:=bif !lwi_F v.n then (.ret,((),b.2.1,(),150)) else (.normal,((),mputC b.2.1 v,(),b.2.2.2))
def nb_K (_:nb_GC) (_:nb_GB) (_:Int):Prop:=True
abbrev nb_I (g:nb_G):List Prop:=ixI (fun c:nb_GC=>c.2) (fun c=>c.1) nb_K (nb_f g)
abbrev nb_M (g:nb_G):Nat:=ixM (fun c:nb_GC=>c.2) (nb_f g)
theorem nb_P:ixP nb_S (fun c:nb_GC=>c.1) nb_K:=fun _ _ _ _ h _ _=>h
noncomputable abbrev nb_RR (g:nb_G):Ex×nb_G:=nb_R g.1 g.2.1 g.2.2.1 g.2.2.2.1 g.2.2.2.2.1 g.2.2.2.2.2.1 g.2.2.2.2.2.2
theorem nb_q (xs:List Change) (n i:Int) (m:List MK×Nat) (r:Int):nb_q1 xs n i () m () r=m.1.findIdx fun e=>decide (keyC (xs.getD i.toNat eC.dflt)=e.1):=
 kfind_idx _ dK m.1 fun j _=>eqKy _ _ _
theorem nb_RF (d:Int×nb_GC×nb_GB) (_:allP (ixI (fun c:nb_GC=>c.2) (fun c=>c.1) nb_K d)):nb_RR (nb_g d)=((ixF 0 (fun c:nb_GC=>c.2) (fun c=>c.1) eC.dflt nb_S d).1,nb_g (ixF 0 (fun c:nb_GC=>c.2) (fun c=>c.1) eC.dflt nb_S d).2):=by
 obtain ⟨i,⟨xs,n⟩,⟨⟨⟩,m,⟨⟩,r⟩⟩:=d
 show nb_R xs n i () m () r=_
 unfold nb_R ixF nb_S lwi_F
 rw[nb_q]
 simp only[El.ag_eq]
 generalize (xs.getD i.toNat eC.dflt)=v
 cases decide (i<n) with
 | false=>rfl
 | true=>
  simp only[cond_true]
  cases (decide (v.n≥(-1099511627776:Int))&&decide (v.n≤(1099511627776:Int))) with
  | false=>rfl
  | true=>
   simp only[Bool.not_true,cond_false]
   have hle:(m.1.findIdx fun e=>decide (keyC v=e.1))≤m.1.length:=List.findIdx_le_length
   rw[lst_put _ _ _ hle]
   unfold mputC mputG
   by_cases hj:(m.1.findIdx fun e=>decide (keyC v=e.1))<m.1.length
   ·simp only[hj,decide_true,cond_true,if_true];rfl
   ·simp only[hj,decide_false,cond_false,if_false];rfl
end Go.Proofs.YthnojkbkojpadaaGreat

namespace Go.Proofs.YthnojkbkojpadaaGreat
open Go.RowKit Go.Sx Go.Lp
set_option maxRecDepth 100000
theorem kfind_first:∀ (k e i:Nat) (f:Nat→Bool),i<k→f (e+i)=true→(∀ j,j<i→f (e+j)=false)→kfind f k e=e+i
 | 0,_,_,_,h,_,_=>absurd h (Nat.not_lt_zero _)
 | k+1,e,0,f,_,hf,_=>by
  have hf:f e=true:=hf
  unfold kfind
  rw[hf];rfl
 | k+1,e,i+1,f,hi,hf,hl=>by
  have h0:f e=false:=hl 0 (Nat.succ_pos _)
  unfold kfind
  rw[h0]
  show kfind f k (e+1)=_
  rw[kfind_first k (e+1) i f (by omega) (by rw[show e+1+i=e+(i+1) by omega];exact hf) (fun j hj=>by rw[show e+1+j=e+(j+1) by omega];exact hl (j+1) (by omega))]
  omega
theorem nb_q2e (xs:List Change) (n i:Int) (m:List MK×Nat) (r:Int):nb_q2 xs n i () m () r=nb_q1 xs n i () m () r:=by
 have h1:=nb_q xs n i m r
 have hle:nb_q1 xs n i () m () r≤m.1.length:=by rw[h1];exact List.findIdx_le_length
 have h2:=kfind_first (bif decide (nb_q1 xs n i () m () r<m.1.length) then m.1.length else m.1.length+1) 0 (nb_q1 xs n i () m () r)
 unfold nb_q2
 rw[h2 _ ?_ ?_ ?_,Nat.zero_add]
 ·by_cases h:nb_q1 xs n i () m () r<m.1.length
  ·rw[decide_eq_true h];exact h
  ·rw[decide_eq_false h];show _<m.1.length+1;omega
 ·rw[Nat.zero_add,decide_eq_true (rfl:nb_q1 xs n i () m () r=nb_q1 xs n i () m () r)]
  simp only[cond_true,beq_self_eq_true,Bool.and_self]
 ·intro j hj
  rw[Nat.zero_add,decide_eq_false (by omega:¬ j=nb_q1 xs n i () m () r)]
  simp only[cond_false]
  have h3:=eqKy (xs.getD i.toNat eC.dflt).p (xs.getD i.toNat eC.dflt).t (m.1.getD j dK).1
  refine h3.trans ?_
  rw[h1] at hj
  have h4:=List.not_of_lt_findIdx hj
  have hjl:j<m.1.length:=by rw[h1] at hle;omega
  rw[show m.1.getD j dK=m.1[j] by simp[List.getD_eq_getElem?_getD,hjl]]
  simpa [keyC] using h4
theorem nb_ok:∀ b∈loopsOf Tryz.prog 29,lkey b=5→LoopOk Tryz.prog b (nb_C nb_I nb_M).g:=by
 refine nb_loop nb_I nb_M (fun g hi=>?_) (ix_conj_goes (fun _=>rfl) (fun _=>rfl) nb_RF nb_P)
 obtain ⟨xs,n,i,⟨⟩,m,⟨⟩,r⟩:=g
 obtain ⟨h1,h2,h3,h4,h5⟩:=hi _ (List.mem_cons_self ..)
 have h1:n=(xs.length:Int):=h1
 have h3:0≤i:=h3
 have hle:nb_q1 xs n i () m () r≤m.1.length:=by rw[nb_q];exact List.findIdx_le_length
 have hlt:decide (nb_q1 xs n i () m () r<(bif decide (nb_q1 xs n i () m () r<m.1.length) then m.1.length else m.1.length+1))=true:=by
  by_cases h:nb_q1 xs n i () m () r<m.1.length
  ·rw[decide_eq_true h];exact decide_eq_true h
  ·rw[decide_eq_false h];exact decide_eq_true (by show _<m.1.length+1;omega)
 show nb_side xs n i () m () r
 unfold nb_side
 simp only[El.okL_eq,El.ag_eq,nb_q2e,hlt,cond_true,decide_true]
 refine ⟨fun hlt=>?_,fun _=>⟨trivial,fun _ _=>trivial⟩⟩
 have hr:=rngP i n _ h1 h3 hlt
 refine ⟨hr,fun _=>⟨trivial,fun _ _=>trivial⟩,fun _ cs=>⟨fun _=>?_,fun _=>?_⟩⟩
 ·repeat' (first | exact (fun _ _=>rfl) | exact (fun _ _=>trivial) | exact (fun _=>rfl) | exact (fun _=>trivial) | exact rfl | apply And.intro | exact trivial)
 ·repeat' (first | exact (fun _ _=>rfl) | exact (fun _ _=>trivial) | exact (fun _=>rfl) | exact (fun _=>trivial) | exact rfl | apply And.intro | exact trivial)
end Go.Proofs.YthnojkbkojpadaaGreat

namespace Go.Proofs.YthnojkbkojpadaaGreat
open Go.RowKit Go.Sx Go.Lp
set_option maxRecDepth 100000
def mapJ (mp:List MK×Nat) (it:List Int×Nat):Prop:=Bn mp.1 mp.2∧Kd mp.1∧it.2=mp.2
def entC (e:MK):Change:=⟨e.1.1,e.1.2,e.2.1⟩
noncomputable def nor_S (e:MK) (b:List Change):Ex×List Change:=(.normal,bif e.2.1 != (0:Int) then b++[entC e] else b)
abbrev nor_I (g:nor_G):List Prop:=[mapJ g.2.1 g.2.2.1∧g.2.2.2.length+(left g.2.1.1 g.2.2.1.1).length≤KS]
abbrev nor_M (g:nor_G):Nat:=(left g.2.1.1 g.2.2.1.1).length
def nor_up (g:nor_G) (s:List Int) (b:List Change):nor_G:=((),g.2.1,(s,g.2.2.1.2),b)
theorem nor_form (cs:List Nat) (g:nor_G) (hi:allP (nor_I g)):((left g.2.1.1 g.2.2.1.1).length=0∧nor_F cs g=(.exit 0,g)∧nor_side cs g.1 g.2.1 g.2.2.1 g.2.2.2)∨∃ e,(left g.2.1.1 g.2.2.1.1)[(hdC cs).headD 0 % (left g.2.1.1 g.2.2.1.1).length]?=some e∧nor_F cs g=((nor_S e g.2.2.2).1,nor_up g (g.2.2.1.1++[e.2.2]) (nor_S e g.2.2.2).2)∧nor_side cs g.1 g.2.1 g.2.2.1 g.2.2.2:=by
 obtain ⟨⟨⟩,⟨mp,clk⟩,⟨sn,si⟩,o⟩:=g
 obtain ⟨⟨hb,hk,hs⟩,hlen⟩:=hi _ (List.mem_cons_self ..)
 have hs:si=clk:=hs
 have hlen:o.length+(left mp sn).length≤KS:=hlen
 subst hs
 have hq1:nor_q1 cs () (mp,si) (sn,si) o=leftI (fun e=>(mp.getD e dK).2.2) mp.length (fun k=>sn.getD k (eInt IntKind.i64).dflt) sn.length:=rfl
 have hq0:=left_len hq1
 by_cases h0:(nor_q1 cs () (mp,si) (sn,si) o).length=0
 ·refine .inl ⟨by show (left mp sn).length=0;rw[← hq0];exact h0,?_,?_⟩
  ·show nor_R cs () (mp,si) (sn,si) o=_
   unfold nor_R
   rw[decide_eq_true h0]
   simp only[cond_true,El.lst_els]
  ·show nor_side cs () (mp,si) (sn,si) o
   unfold nor_side
   rw[decide_eq_true h0]
   exact ⟨⟨rfl,rfl⟩,fun _ _=>trivial,fun _ _=>trivial,fun _=>⟨fun _ _=>trivial,rfl,fun _ _=>trivial,Nat.le_refl _,fun _ _=>trivial⟩,fun h=>(by cases h)⟩
 ·obtain ⟨j,hj,hjl,hat,hsn⟩:=left_pick hq1 h0 (hdC cs)
  have hg:mp.getD j dK=mp[j]:=by simp[List.getD_eq_getElem?_getD,hjl]
  have hq2:nor_q2 cs () (mp,si) (sn,si) o=j:=hj
  have hq3:nor_q3 cs () (mp,si) (sn,si) o=j:=stamp_at hb hjl (by unfold nor_q3;rw[hq2])
  rw[hg] at hat
  refine .inr ⟨mp[j],hat,?_,?_⟩
  ·show nor_R cs () (mp,si) (sn,si) o=_
   unfold nor_R nor_S
   rw[decide_eq_false h0,hq3,hq2]
   simp only[cond_false]
   rw[lst_snoc,lst_snoc,El.lst_els,El.lst_els]
   simp only[hg]
   cases mp[j].2.1 != (0:Int) <;> rfl
  ·show nor_side cs () (mp,si) (sn,si) o
   unfold nor_side
   rw[decide_eq_false h0,hq3]
   have b0':o.length≤KS:=by omega
   have b0:o.length≤1000000:=b0'
   have b1:o.length+1≤maxLen:=by unfold maxLen;omega
   refine ⟨⟨rfl,rfl⟩,fun _ _=>trivial,fun _ _=>trivial,fun h=>(by cases h),fun _=>⟨rfl,fun _ _=>trivial,trivial,hjl,fun _=>⟨⟨Nat.le_refl _,trivial,b1,by rw[byt59];omega⟩,fun _ _=>trivial,rfl,fun _ _=>trivial,fun _ _=>trivial,Nat.le_refl _,fun _ _=>trivial,fun _ _=>trivial⟩,fun _=>⟨fun _ _=>trivial,rfl,fun _ _=>trivial,fun _ _=>trivial,Nat.le_refl _,fun _ _=>trivial⟩⟩⟩
theorem nor_all:GoesA nor_F nor_M (fun g=>allP (nor_I g))∧∀ cs g,allP (nor_I g)→∃ s,loopFA nor_F nor_M cs g=((scanM 0 nor_S (permC (left g.2.1.1 g.2.2.1.1).length cs (left g.2.1.1 g.2.2.1.1)) g.2.2.2).1,nor_up g s (scanM 0 nor_S (permC (left g.2.1.1 g.2.2.1.1).length cs (left g.2.1.1 g.2.2.1.1)) g.2.2.2).2):=
 fold_loop (mp:=fun g:nor_G=>g.2.1.1) (sn:=fun g=>g.2.2.1.1) (clk:=fun g=>g.2.1.2) (bo:=fun g=>g.2.2.2) (up:=nor_up) (fun _ _ _=>rfl) (fun _ _ _=>rfl) (fun _ _ _=>rfl) (fun _ _ _ _ _=>rfl) (fun _=>rfl) (fun g h=>(h _ (List.mem_cons_self ..)).1.1) (fun _=>rfl)
  (fun g e h he hlt hn p hp=>by
   rw[List.mem_singleton.1 hp]
   obtain ⟨hI,hlen⟩:=h _ (List.mem_cons_self ..)
   refine ⟨hI,?_⟩
   show (nor_S e g.2.2.2).2.length+(left g.2.1.1 (g.2.2.1.1++[e.2.2])).length≤KS
   have:(nor_S e g.2.2.2).2.length≤g.2.2.2.length+1:=by
    unfold nor_S
    cases e.2.1 != (0:Int) <;> simp
   omega)
  fun cs g h=>by
   rcases nor_form cs g h with ⟨h1,h2,_⟩ | ⟨e,he,h2,_⟩
   ·exact .inl ⟨h1,h2⟩
   ·exact .inr ⟨e,he,h2⟩
theorem nor_ok:∀ b∈loopsOf Tryz.prog 73,lkey b=3→LoopOk Tryz.prog b (nor_C nor_I nor_M).g:=
 nor_loop nor_I nor_M (fun cs g hi=>by
  rcases nor_form cs g hi with ⟨_,_,h⟩ | ⟨_,_,_,h⟩
  ·exact h
  ·exact h) nor_all.1
noncomputable def nor_q (cs:List Nat) (g:nor_G):Ex×List Change:=scanM 0 nor_S (permC (left g.2.1.1 g.2.2.1.1).length cs (left g.2.1.1 g.2.2.1.1)) g.2.2.2
noncomputable def nor_f' (cs:List Nat) (g:nor_G):Ex×nor_G:=((nor_q cs g).1,nor_up g (loopFA nor_F nor_M cs g).2.2.2.1.1 (nor_q cs g).2)
noncomputable abbrev nor_C2:LCon:=loopRC nor_E (loopBody Tryz.prog 73 3) nor_LP [] 27 nor_I nor_f'
theorem nor_ok2:∀ b∈loopsOf Tryz.prog 73,lkey b=3→LoopOk Tryz.prog b nor_C2.g:=fun b hb hk=>
 loop_quotC (fun _ h=>h) (fun g hi cs=>⟨cs,by
  obtain ⟨s,hs⟩:=nor_all.2 cs g hi
  unfold nor_f' nor_q
  rw[hs];rfl⟩) (nor_ok b hb hk)
end Go.Proofs.YthnojkbkojpadaaGreat

namespace Go.Proofs.YthnojkbkojpadaaGreat
open Go.RowKit Go.Sx Go.Lp Go.Sort
set_option maxRecDepth 100000
def keyK (k:Ky):List Int:=[k.1.node,k.1.port,k.2.e,k.2.d,k.2.l0,k.2.l1,k.2.l2,k.2.l3]
theorem keyK_inj (a b:Ky) (h:keyK a=keyK b):a=b:=by
 obtain ⟨⟨f,k⟩,⟨e,d,p0,p1,p2,p3⟩⟩:=a
 obtain ⟨⟨f',k'⟩,⟨e',d',p0',p1',p2',p3'⟩⟩:=b
 simp only[keyK,List.cons.injEq,and_true] at h
 obtain ⟨rfl,rfl,rfl,rfl,rfl,rfl,rfl,rfl⟩:=h
 rfl
def lexK (a b:Ky):Int:=lexC (keyK a) (keyK b)
theorem toK:TO lexK:=to_lex keyK keyK_inj fun _ _=>Iff.rfl
theorem lcm_lex (a b:Change):lcm_F a b=lexK (keyC a) (keyC b):=by
 show lcm_F a b=lexC (a.p.node :: a.p.port :: keyT a.t) (b.p.node :: b.p.port :: keyT b.t)
 unfold lcm_F
 simp only[cmpi_same,lexC,or_self,← tcmp_lex]
 rcases cmp3 a.p.node b.p.node with ⟨h,e⟩ | ⟨h,e⟩ | ⟨h,e⟩ <;> simp only[e]
 ·simp[h]
 ·have:¬ a.p.node<b.p.node:=by omega
  simp[h,this]
 rw[if_neg (by omega),if_neg (by omega)]
 rcases cmp3 a.p.port b.p.port with ⟨h,e⟩ | ⟨h,e⟩ | ⟨h,e⟩ <;> simp only[e]
 ·simp[h]
 ·have:¬ a.p.port<b.p.port:=by omega
  simp[h,this]
 rw[if_neg (by omega),if_neg (by omega)]
 rfl
theorem swoC:SWO fun x y=>decide (lcm_F x y<0):=⟨fun x=>by rw[lcm_lex];exact toK.swo.irrefl _,fun x y z h1 h2=>by rw[lcm_lex] at h1 h2 ⊢;exact toK.swo.trans _ _ _ h1 h2,fun x y z h1 h2=>by rw[lcm_lex] at h1 h2 ⊢;exact toK.swo.ntrans _ _ _ h1 h2⟩
end Go.Proofs.YthnojkbkojpadaaGreat

namespace Go.Proofs.YthnojkbkojpadaaGreat
open Go.RowKit Go.Sx Go.Lp Go.Shelf Go.Sort
def sortC_ren:Go.Shelf.Ren:=⟨fun | 6=>116 | 15=>138 | 14=>148 | 28=>172 | 29=>173 | 20=>177 | 21=>178 | 22=>179 | 23=>180 | 24=>181 | 25=>182 | 26=>183 | 27=>184 | 46=>206 | 47=>202 | 48=>203 | 49=>207 | 50=>208 | 57=>223 | n=>n,fun | 22=>48 | 24=>59 | 25=>174 | 3=>3 | 39=>188 | 0=>0 | 53=>218 | 55=>220 | 4=>4 | 46=>212 | 45=>211 | 50=>27 | 5=>5 | 9=>9 | 66=>237 | 70=>241 | 76=>259 | 77=>260 | n=>n,fun | n=>n⟩
theorem sortC:SlLaysF0.n6 Tryz.prog sortC_ren:={
 mixed:=by kernel_rfl,
 f6:=⟨Tryz.f116.name,by decide,Tryz.func116.trans (congrArg some (by kernel_rfl))⟩,
 f14:=⟨Tryz.f148.name,by decide,Tryz.func148.trans (congrArg some (by kernel_rfl))⟩,
 f15:=Tryz.func138.trans (congrArg some (by kernel_rfl)),
 f20:=⟨Tryz.f177.name,by decide,Tryz.func177.trans (congrArg some (by kernel_rfl))⟩,
 f21:=⟨Tryz.f178.name,by decide,Tryz.func178.trans (congrArg some (by kernel_rfl))⟩,
 f22:=⟨Tryz.f179.name,by decide,Tryz.func179.trans (congrArg some (by kernel_rfl))⟩,
 f23:=⟨Tryz.f180.name,by decide,Tryz.func180.trans (congrArg some (by kernel_rfl))⟩,
 f24:=⟨Tryz.f181.name,by decide,Tryz.func181.trans (congrArg some (by kernel_rfl))⟩,
 f25:=⟨Tryz.f182.name,by decide,Tryz.func182.trans (congrArg some (by kernel_rfl))⟩,
 f26:=⟨Tryz.f183.name,by decide,Tryz.func183.trans (congrArg some (by kernel_rfl))⟩,
 f27:=⟨Tryz.f184.name,by decide,Tryz.func184.trans (congrArg some (by kernel_rfl))⟩,
 f28:=Tryz.func172.trans (congrArg some (by kernel_rfl)),
 f29:=Tryz.func173.trans (congrArg some (by kernel_rfl)),
 f46:=⟨Tryz.f206.name,by decide,Tryz.func206.trans (congrArg some (by kernel_rfl))⟩,
 f47:=Tryz.func202.trans (congrArg some (by kernel_rfl)),
 f48:=Tryz.func203.trans (congrArg some (by kernel_rfl)),
 f49:=⟨Tryz.f207.name,by decide,Tryz.func207.trans (congrArg some (by kernel_rfl))⟩,
 f50:=⟨Tryz.f208.name,by decide,Tryz.func208.trans (congrArg some (by kernel_rfl))⟩,
 f57:=⟨Tryz.f223.name,by decide,Tryz.func223.trans (congrArg some (by kernel_rfl))⟩,
 t0:=Tryz.underlying0,
 a0:=Tryz.isAgg0,
 z0:=Tryz.sizeOf0,
 v0:=Tryz.zeroValue0,
 t3:=Tryz.underlying3,
 a3:=Tryz.isAgg3,
 z3:=Tryz.sizeOf3,
 v3:=Tryz.zeroValue3,
 t4:=Tryz.underlying4,
 a4:=Tryz.isAgg4,
 z4:=Tryz.sizeOf4,
 v4:=Tryz.zeroValue4,
 t5:=Tryz.underlying5,
 a5:=Tryz.isAgg5,
 z5:=Tryz.sizeOf5,
 v5:=Tryz.zeroValue5,
 t9:=Tryz.underlying9,
 a9:=Tryz.isAgg9,
 z9:=Tryz.sizeOf9,
 v9:=Tryz.zeroValue9,
 t22:=Tryz.underlying48,
 a22:=Tryz.isAgg48,
 z22:=Tryz.sizeOf48,
 v22:=Tryz.zeroValue48,
 t25:=Tryz.underlying174,
 a25:=Tryz.isAgg174,
 z25:=Tryz.sizeOf174,
 v25:=Tryz.zeroValue174,
 t39:=Tryz.underlying188,
 a39:=Tryz.isAgg188,
 z39:=Tryz.sizeOf188,
 v39:=Tryz.zeroValue188,
 t45:=Tryz.underlying211,
 a45:=Tryz.isAgg211,
 z45:=Tryz.sizeOf211,
 v45:=Tryz.zeroValue211,
 t46:=Tryz.underlying212,
 a46:=Tryz.isAgg212,
 z46:=Tryz.sizeOf212,
 v46:=Tryz.zeroValue212,
 t50:=Tryz.underlying27,
 a50:=Tryz.isAgg27,
 z50:=Tryz.sizeOf27,
 v50:=Tryz.zeroValue27,
 t53:=Tryz.underlying218,
 a53:=Tryz.isAgg218,
 z53:=Tryz.sizeOf218,
 v53:=Tryz.zeroValue218,
 t55:=Tryz.underlying220,
 a55:=Tryz.isAgg220,
 z55:=Tryz.sizeOf220,
 v55:=Tryz.zeroValue220,
 t66:=Tryz.underlying237,
 a66:=Tryz.isAgg237,
 z66:=Tryz.sizeOf237,
 v66:=Tryz.zeroValue237,
 t70:=Tryz.underlying241,
 a70:=Tryz.isAgg241,
 z70:=Tryz.sizeOf241,
 v70:=Tryz.zeroValue241,
 t76:=Tryz.underlying259,
 a76:=Tryz.isAgg259,
 z76:=Tryz.sizeOf259,
 v76:=Tryz.zeroValue259,
 t77:=Tryz.underlying260,
 a77:=Tryz.isAgg260,
 z77:=Tryz.sizeOf260,
 v77:=Tryz.zeroValue260 }
abbrev dUn0_sortC:Dv Unit:=.tup .none
abbrev aFn_sortC:DA Unit:=.one (dFn 117)
def pre_sortC (xs:List Change) (_:Unit):List Prop:=[xs.length<4611686018427387904,Anti (fun a b=>lcm_F a b) xs]
theorem sortC_ok:FnMut Tryz.prog 116 59 eC aFn_sortC (.pure dUn0_sortC) (fun xs _=>(srtBy (fun a b=>lcm_F a b) xs,())) pre_sortC:=by
 have h:=sort_mut (P:=Tryz.prog) (A:=eC) (t:=59) (g:=117) (cf:=fun a b=>lcm_F a b) (pre:=fun _=>[]) sortC Tryz.isAgg59 Tryz.sizeOf59 (by decide) (Go.Proofs.enters_of Tryz.func117 (by kernel_rfl) rfl) swoC lcm_ok
 intro w F L xs g v0 vs h1 h2 h3 h4 h5 h6 h7
 refine h w F L xs g v0 vs h1 h2 h3 h4 (fun p hp=>?_) h6 h7
 simp only[List.mem_cons,List.not_mem_nil,or_false] at hp
 rcases hp with rfl | rfl | rfl
 ·exact h5 _ (List.mem_cons_self ..)
 ·exact h5 _ (List.mem_cons_of_mem _ (List.mem_cons_self ..))
 ·exact fun x _ y _ p hp=>by cases hp
end Go.Proofs.YthnojkbkojpadaaGreat

namespace Go.Proofs.YthnojkbkojpadaaGreat
open Go.RowKit Go.Sx
set_option maxRecDepth 100000
set_option linter.unusedVariables false
abbrev aLf1:DA (List Change×Unit):=.cons dLC (.one (dFn 71))
abbrev aLf2:DA (List Change×Unit):=.cons dLC (.one (dFn 74))
noncomputable def ixn_q1 (xs:List Change) (u:Unit):Ex ×
 ix1_G:=
 loopF (fun g=>ix1_R g.fst g.snd.fst g.snd.snd.fst g.snd.snd.snd.fst g.snd.snd.snd.snd) ix1_M (eC.ag xs,(),(↑xs.length:Int),(0:Int),(0:Int))
noncomputable def ixn_F (xs:List Change) (u:Unit):Dv.T dI:=
 bif exB Ex.ret (ixn_q1 xs u).fst then (ixn_q1 xs u).snd.snd.snd.snd.snd else (-1:Int)
def ixn_side (xs:List Change) (u:Unit):Prop:=
 eC.okL xs∧Lp.ixJ (fun c=>c.snd) (fun c=>c.fst) ix1_K (ix1_f (eC.ag xs,(),(↑xs.length:Int),(0:Int),(0:Int)))
theorem ixn_okS (pre:DA.T aLf1→List Prop) (h:∀ g,DA.bd aLf1 g→(∀ p∈pre g,p)→ixn_side g.1 g.2):FnPure Tryz.prog 115 aLf1 dI (fun g=>ixn_F g.1 g.2) pre:=pure_of_sideS (Γ:=(MTab.gamz tabN0 [] [])) (Λ:=lamN2a) (MTab.okz tabN0 [] []) lamN2a_ok 100 default (fun g=>ixn_side g.1 g.2) (fun g=>by kernel_rfl) (fun g=>by kernel_rfl) h
noncomputable def eqcf_q1 (xs:List Change) (ys:List Change):Ex ×
 eqc_G:=
 loopF (fun g=>eqc_R g.fst g.snd.fst g.snd.snd.fst g.snd.snd.snd.fst g.snd.snd.snd.snd) eqc_M (eC.ag xs,eC.ag ys,(↑xs.length:Int),(0:Int),false)
noncomputable def eqcf_F (xs:List Change) (ys:List Change):Dv.T dBool:=
 bif (↑xs.length:Int) != (↑ys.length:Int) then false
 else bif exB Ex.ret (eqcf_q1 xs ys).fst then (eqcf_q1 xs ys).snd.snd.snd.snd.snd else true
def eqcf_side (xs:List Change) (ys:List Change):Prop:=
 ((↑xs.length:Int) != (↑ys.length:Int))=false→eC.okL xs∧eC.okL ys∧Lp.ixJ (fun c=>c.snd.snd) (fun c=>c.fst) eqc_K (eqc_f (eC.ag xs,eC.ag ys,(↑xs.length:Int),(0:Int),false))
theorem eqcf_okS (pre:DA.T aLLC→List Prop) (h:∀ g,DA.bd aLLC g→(∀ p∈pre g,p)→eqcf_side g.1 g.2):FnPure Tryz.prog 31 aLLC dBool (fun g=>eqcf_F g.1 g.2) pre:=pure_of_sideS (Γ:=(MTab.gamz tabN0 [] [])) (Λ:=lamN2a) (MTab.okz tabN0 [] []) lamN2a_ok 100 default (fun g=>eqcf_side g.1 g.2) (fun g=>by kernel_rfl) (fun g=>by kernel_rfl) h
noncomputable def rnof_q1 (xs:List Change):Ex×rno_G:=
 loopF (fun g=>rno_R g.fst g.snd.fst g.snd.snd) rno_M (eC.ag xs,(0:Int),[])
noncomputable def rnof_F (xs:List Change):Rv.T (.list eC):=
 eC.ag (rnof_q1 xs).snd.snd.snd
def rnof_side (xs:List Change):Prop:=
 eC.okL xs∧Lp.ixJ (fun c=>(↑(List.length c):Int)) (fun c=>c) rno_K (rno_f (eC.ag xs,(0:Int),[]))∧(rnof_q1 xs).snd.snd.snd.length≤(rnof_q1 xs).snd.snd.snd.length∧∀ (e:Nat),e<(rnof_q1 xs).snd.snd.snd.length→True
theorem rnof_okS (pre:DA.T aLC→List Prop) (h:∀ g,DA.bd aLC g→(∀ p∈pre g,p)→rnof_side g):FnPure Tryz.prog 78 aLC (Rv.D (.list eC)) (fun g=>rnof_F g) pre:=res_of_side (R:=(.list eC)) (Γ:=(MTab.gamz tabN0 [] [])) (Λ:=lamN2a) (MTab.okz tabN0 [] []) lamN2a_ok 100 default (fun g=>rnof_side g) (fun g=>by kernel_rfl) (fun g=>by kernel_rfl) h
end Go.Proofs.YthnojkbkojpadaaGreat

namespace Go.Proofs.YthnojkbkojpadaaGreat
open Go.RowKit Go.Sx
set_option maxRecDepth 100000
set_option linter.unusedVariables false
noncomputable def ixm_q1 (xs:List Change) (u:Unit):Ex ×
 ix2_G:=
 loopF (fun g=>ix2_R g.fst g.snd.fst g.snd.snd.fst g.snd.snd.snd.fst g.snd.snd.snd.snd) ix2_M (eC.ag xs,(),(↑xs.length:Int),(0:Int),(0:Int))
noncomputable def ixm_F (xs:List Change) (u:Unit):Dv.T dI:=
 bif exB Ex.ret (ixm_q1 xs u).fst then (ixm_q1 xs u).snd.snd.snd.snd.snd else (-1:Int)
def ixm_side (xs:List Change) (u:Unit):Prop:=
 eC.okL xs∧Lp.ixJ (fun c=>c.snd) (fun c=>c.fst) ix2_K (ix2_f (eC.ag xs,(),(↑xs.length:Int),(0:Int),(0:Int)))
theorem ixm_okS (pre:DA.T aLf2→List Prop) (h:∀ g,DA.bd aLf2 g→(∀ p∈pre g,p)→ixm_side g.1 g.2):FnPure Tryz.prog 115 aLf2 dI (fun g=>ixm_F g.1 g.2) pre:=pure_of_sideS (Γ:=(MTab.gamz tabN0 [] [])) (Λ:=lamN2b) (MTab.okz tabN0 [] []) lamN2b_ok 100 default (fun g=>ixm_side g.1 g.2) (fun g=>by kernel_rfl) (fun g=>by kernel_rfl) h
end Go.Proofs.YthnojkbkojpadaaGreat

namespace Go.Proofs.YthnojkbkojpadaaGreat
open Go.RowKit Go.Sx Go.Lp
set_option maxRecDepth 100000
noncomputable def tBad (v:Change):Bool:=tcheck_F v.t != (0:Int)
noncomputable def cBad (v:Change):Bool:=!lwi_F v.n
theorem ixn_pos (xs:List Change) (u:Unit) (h:xs.length≤maxLen):decide (ixn_F xs u≥0)=xs.any tBad:=by
 unfold ixn_F ixn_q1
 simp only[El.ag_eq]
 have h1:loopF (fun g:ix1_G=>ix1_R g.1 g.2.1 g.2.2.1 g.2.2.2.1 g.2.2.2.2) ix1_M (xs,(),(xs.length:Int),0,0)=_:=ix1_run (xs,(xs.length:Int)) ((),(0:Int)) rfl h trivial
 rw[h1]
 rcases search (x:=0) (st:=ix1_S (xs,(xs.length:Int))) (p:=tBad) (r:=fun i _ _=>((),i)) (fun _ _ _=>rfl) xs ((),0) with ⟨ha,j,hj,a,_,_,h2⟩ | ⟨ha,h2⟩
 ·have h2:scan 0 (ix1_S (xs,(xs.length:Int))) 0 xs ((),0)=_:=h2
  rw[h2,ha]
  show decide (j≥0)=true
  exact decide_eq_true hj
 ·have h2:scan 0 (ix1_S (xs,(xs.length:Int))) 0 xs ((),0)=_:=h2
  rw[h2,ha]
  rfl
theorem ixm_pos (xs:List Change) (u:Unit) (h:xs.length≤maxLen):decide (ixm_F xs u≥0)=xs.any cBad:=by
 unfold ixm_F ixm_q1
 simp only[El.ag_eq]
 have h1:loopF (fun g:ix2_G=>ix2_R g.1 g.2.1 g.2.2.1 g.2.2.2.1 g.2.2.2.2) ix2_M (xs,(),(xs.length:Int),0,0)=_:=ix2_run (xs,(xs.length:Int)) ((),(0:Int)) rfl h trivial
 rw[h1]
 rcases search (x:=0) (st:=ix2_S (xs,(xs.length:Int))) (p:=cBad) (r:=fun i _ _=>((),i)) (fun _ _ _=>rfl) xs ((),0) with ⟨ha,j,hj,a,_,_,h2⟩ | ⟨ha,h2⟩
 ·have h2:scan 0 (ix2_S (xs,(xs.length:Int))) 0 xs ((),0)=_:=h2
  rw[h2,ha]
  show decide (j≥0)=true
  exact decide_eq_true hj
 ·have h2:scan 0 (ix2_S (xs,(xs.length:Int))) 0 xs ((),0)=_:=h2
  rw[h2,ha]
  rfl
theorem ixn_c:FnPure Tryz.prog 115 aLf1 dI (fun g=>ixn_F g.1 g.2) (fun _=>[]):=
 ixn_okS _ fun g hb hp=>by
  obtain ⟨xs,u⟩:=g
  have hl:xs.length≤maxLen:=hb.1.1
  show ixn_side xs u
  unfold ixn_side
  simp only[El.okL_eq,El.ag_eq]
  exact ⟨trivial,ixJ0 rfl hl trivial⟩
theorem ixm_c:FnPure Tryz.prog 115 aLf2 dI (fun g=>ixm_F g.1 g.2) (fun _=>[]):=
 ixm_okS _ fun g hb hp=>by
  obtain ⟨xs,u⟩:=g
  have hl:xs.length≤maxLen:=hb.1.1
  show ixm_side xs u
  unfold ixm_side
  simp only[El.okL_eq,El.ag_eq]
  exact ⟨trivial,ixJ0 rfl hl trivial⟩
theorem eqcf_c:FnPure Tryz.prog 31 aLLC dBool (fun g=>decide (g.1=g.2)) (fun _=>[]):=by
 have h:=eqcf_okS (fun _=>[]) fun g hb _=>by
  obtain ⟨a,b⟩:=g
  have ha:a.length≤maxLen:=hb.1.1
  show eqcf_side a b
  unfold eqcf_side
  simp only[El.okL_eq,El.ag_eq]
  exact fun hc=>⟨trivial,trivial,ixJ0 rfl ha (ne_len hc)⟩
 refine pure_congr h fun g hb _=>?_
 obtain ⟨a,b⟩:=g
 have ha:a.length≤maxLen:=hb.1.1
 show eqcf_F a b=decide (a=b)
 unfold eqcf_F eqcf_q1
 simp only[El.ag_eq]
 cases hc:((a.length:Int) != (b.length:Int)) with
 | true=>
  have:a≠b:=fun e=>by subst e;simp at hc
  simp[this]
 | false=>
  have hl:=ne_len hc
  have h1:loopF (fun g:eqc_G=>eqc_R g.1 g.2.1 g.2.2.1 g.2.2.2.1 g.2.2.2.2) eqc_M (a,b,(a.length:Int),0,false)=_:=eqc_run (a,b,(a.length:Int)) false rfl ha hl
  rw[h1]
  rcases scan_same (x:=0) b eC.dflt (st:=eqc_S (a,b,(a.length:Int))) (fun _ _ _=>rfl) a 0 false (by omega) with ⟨h2,h3⟩ | ⟨h2,h3,h4⟩
  ·have h3:scan 0 (eqc_S (a,b,(a.length:Int))) 0 a false=_:=h3
   rw[h3]
   rw[List.drop_zero] at h2
   simp[h2,exB]
  ·have h3:(scan 0 (eqc_S (a,b,(a.length:Int))) 0 a false).1=_:=h3
   have h4:(scan 0 (eqc_S (a,b,(a.length:Int))) 0 a false).2.2=_:=h4
   rw[List.drop_zero] at h2
   show (bif exB .ret (scan 0 (eqc_S (a,b,(a.length:Int))) 0 a false).1 then (scan 0 (eqc_S (a,b,(a.length:Int))) 0 a false).2.2 else true)=_
   rw[h3,h4]
   simp[h2,exB]
noncomputable def tabN11:MTab Tryz.prog:=((tabN0.cons 115 (pconAlt 71 (pconP aLf1 dI (fun g=>ixn_F g.1 g.2) (fun _=>[])) (pconP aLf2 dI (fun g=>ixm_F g.1 g.2) (fun _=>[]))) (alt_ok (conP_ok ixn_c puI) (conP_ok ixm_c puI))).cons 31 (pconP aLLC dBool (fun g=>decide (g.1=g.2)) (fun _=>[])) (conP_ok eqcf_c puB)).consM 116 (bconM 59 eC aFn_sortC (.pure dUn0_sortC) (fun xs _=>(srtBy (fun a b=>lcm_F a b) xs,())) pre_sortC) (conM_ok sortC_ok)
noncomputable def ltN11:LTab Tryz.prog:=(ltN2a.cons 29 5 (nb_C nb_I nb_M) nb_ok).cons 73 3 nor_C2 nor_ok2
noncomputable abbrev lamN11:Lam:=ltN11.lam
theorem lamN11_ok:∀ f k L,lamN11 f k=some L→∀ b∈loopsOf Tryz.prog f,lkey b=k→LoopOk Tryz.prog b L.g:=ltN11.ok
end Go.Proofs.YthnojkbkojpadaaGreat

namespace Go.Proofs.YthnojkbkojpadaaGreat
open Go.RowKit Go.Sx
set_option maxRecDepth 100000
set_option linter.unusedVariables false
abbrev dLCE:Dv (List Change×Int):=.tup (.cons dLC (.one dI))
noncomputable def netf_q1 (cs:List Nat) (xs:List Change):Ex ×
 nb_G:=
 loopF (fun g=>nb_R g.fst g.snd.fst g.snd.snd.fst g.snd.snd.snd.fst g.snd.snd.snd.snd.fst g.snd.snd.snd.snd.snd.fst g.snd.snd.snd.snd.snd.snd) nb_M (eC.lst xs.length (eC.els xs),(↑xs.length:Int),(0:Int),(),(List.map (fun x=>((Place.mk (0:Int) (0:Int),T.mk (0:Int) (0:Int) (0:Int) (0:Int) (0:Int) (0:Int)),(0:Int),(0:Int))) (List.range (0:Nat)),(0:Nat)),(),(0:Int))
noncomputable def netf_q2 (cs:List Nat) (xs:List Change):Ex ×
 nor_G:=
 nor_f' (hdC cs) ((),((eKy.ent eI).lst (netf_q1 cs xs).snd.snd.snd.snd.snd.fst.fst.length ((eKy.ent eI).els (netf_q1 cs xs).snd.snd.snd.snd.snd.fst.fst),(netf_q1 cs xs).snd.snd.snd.snd.snd.fst.snd),(List.map (fun x=>(0:Int)) (List.range (0:Nat)),(netf_q1 cs xs).snd.snd.snd.snd.snd.fst.snd),[])
noncomputable def netf_F (cs:List Nat) (xs:List Change):Dv.T dLCE:=
 bif decide (ixn_F (eC.lst xs.length (eC.els xs)) ()≥(0:Int)) then ([],(10:Int))
 else bif exB Ex.ret (netf_q1 cs xs).fst then ([],(netf_q1 cs xs).snd.snd.snd.snd.snd.snd.snd) else bif decide (ixm_F (eC.lst (netf_q2 cs xs).snd.snd.snd.snd.length (ElE.fn (eC.els (srtBy (fun a b=>lcm_F a b) (eC.lst (netf_q2 cs xs).snd.snd.snd.snd.length (eC.els (netf_q2 cs xs).snd.snd.snd.snd))))).at) ()≥(0:Int)) then ([],(150:Int)) else (eC.lst (netf_q2 cs xs).snd.snd.snd.snd.length (ElE.fn (eC.els (srtBy (fun a b=>lcm_F a b) (eC.lst (netf_q2 cs xs).snd.snd.snd.snd.length (eC.els (netf_q2 cs xs).snd.snd.snd.snd))))).at,(0:Int))
def netf_side (cs:List Nat) (xs:List Change):Prop:=
 (∀ (e:Nat),e<xs.length→eC.Ok (eC.els xs e))∧(decide (ixn_F (eC.lst xs.length (eC.els xs)) ()≥(0:Int))=false→(∀ (e:Nat),e<xs.length→eC.Ok (eC.els xs e))∧(∀ (e:Nat),e<(0:Nat)→True)∧Lp.ixJ (fun c=>c.snd) (fun c=>c.fst) nb_K (nb_f (eC.lst xs.length (eC.els xs),(↑xs.length:Int),(0:Int),(),(List.map (fun x=>((Place.mk (0:Int) (0:Int),T.mk (0:Int) (0:Int) (0:Int) (0:Int) (0:Int) (0:Int)),(0:Int),(0:Int))) (List.range (0:Nat)),(0:Nat)),(),(0:Int)))∧(exB Ex.ret (netf_q1 cs xs).fst=false→(∀ (e:Nat),e<(netf_q1 cs xs).snd.snd.snd.snd.snd.fst.fst.length→True)∧(netf_q1 cs xs).snd.snd.snd.snd.snd.fst.snd=(netf_q1 cs xs).snd.snd.snd.snd.snd.fst.snd∧(∀ (e:Nat),e<(0:Nat)→True)∧(mapJ ((eKy.ent eI).lst (netf_q1 cs xs).snd.snd.snd.snd.snd.fst.fst.length ((eKy.ent eI).els (netf_q1 cs xs).snd.snd.snd.snd.snd.fst.fst),(netf_q1 cs xs).snd.snd.snd.snd.snd.fst.snd) (List.map (fun x=>(0:Int)) (List.range (0:Nat)),(netf_q1 cs xs).snd.snd.snd.snd.snd.fst.snd)∧(0:Nat)+(Lp.left ((eKy.ent eI).lst (netf_q1 cs xs).snd.snd.snd.snd.snd.fst.fst.length ((eKy.ent eI).els (netf_q1 cs xs).snd.snd.snd.snd.snd.fst.fst)) (List.map (fun x=>(0:Int)) (List.range (0:Nat)))).length≤KS)∧(netf_q2 cs xs).snd.snd.snd.snd.length=(netf_q2 cs xs).snd.snd.snd.snd.length∧(∀ (e:Nat),e<(netf_q2 cs xs).snd.snd.snd.snd.length→True)∧(eC.lst (netf_q2 cs xs).snd.snd.snd.snd.length (eC.els (netf_q2 cs xs).snd.snd.snd.snd)).length<(4611686018427387904:Nat)∧Anti (fun a b=>lcm_F a b) (eC.lst (netf_q2 cs xs).snd.snd.snd.snd.length (eC.els (netf_q2 cs xs).snd.snd.snd.snd))∧(netf_q2 cs xs).snd.snd.snd.snd.length≤(srtBy (fun a b=>lcm_F a b) (eC.lst (netf_q2 cs xs).snd.snd.snd.snd.length (eC.els (netf_q2 cs xs).snd.snd.snd.snd))).length∧(∀ (e:Nat),e<(netf_q2 cs xs).snd.snd.snd.snd.length→eC.Ok ((ElE.fn (eC.els (srtBy (fun a b=>lcm_F a b) (eC.lst (netf_q2 cs xs).snd.snd.snd.snd.length (eC.els (netf_q2 cs xs).snd.snd.snd.snd))))).at e))∧(decide (ixm_F (eC.lst (netf_q2 cs xs).snd.snd.snd.snd.length (ElE.fn (eC.els (srtBy (fun a b=>lcm_F a b) (eC.lst (netf_q2 cs xs).snd.snd.snd.snd.length (eC.els (netf_q2 cs xs).snd.snd.snd.snd))))).at) ()≥(0:Int))=false→(netf_q2 cs xs).snd.snd.snd.snd.length≤(srtBy (fun a b=>lcm_F a b) (eC.lst (netf_q2 cs xs).snd.snd.snd.snd.length (eC.els (netf_q2 cs xs).snd.snd.snd.snd))).length∧∀ (e:Nat),e<(netf_q2 cs xs).snd.snd.snd.snd.length→eC.Ok ((ElE.fn (eC.els (srtBy (fun a b=>lcm_F a b) (eC.lst (netf_q2 cs xs).snd.snd.snd.snd.length (eC.els (netf_q2 cs xs).snd.snd.snd.snd))))).at e))))
theorem netf_okA (fn:DA.T aLC→Dv.T dLCE) (pre:DA.T aLC→List Prop) (h:∀ cs g,DA.bd aLC g→(∀ p∈pre g,p)→netf_side cs g∧netf_F cs g=fn g):FnPure Tryz.prog 29 aLC dLCE fn pre:=pure_of_sideA (Γ:=(MTab.gamz tabN11 [] [])) (Λ:=lamN11) (MTab.okz tabN11 [] []) lamN11_ok 100 default (fun cs g=>netf_side cs g) (fun cs g=>netf_F cs g) (fun cs g=>by kernel_rfl) (fun cs g=>by kernel_rfl) h
end Go.Proofs.YthnojkbkojpadaaGreat

namespace Go.Proofs.YthnojkbkojpadaaGreat
open Go.RowKit Go.Sx Go.Lp
set_option maxRecDepth 100000
def mkC (k:Ky) (n:Int):Change:=⟨k.1,k.2,n⟩
theorem keyC_mk (k:Ky) (n:Int):keyC (mkC k n)=k:=rfl
theorem num_mk (k:Ky) (n:Int):(mkC k n).n=n:=rfl
theorem extC (a b:Change) (h1:keyC a=keyC b) (h2:a.n=b.n):a=b:=by
 obtain ⟨p,t,n⟩:=a
 obtain ⟨p',t',n'⟩:=b
 have h1:(p,t)=(p',t'):=h1
 cases h1
 cases h2
 rfl
noncomputable def totC (xs:List Change):List Change:=totK keyC Change.n mkC lexK xs
abbrev sumC (xs:List Change) (k:Ky):Int:=sumK keyC Change.n xs k
theorem totC_mem (xs:List Change) (y:Change):y∈totC xs↔(∃ x∈xs,keyC x=keyC y)∧y.n=sumC xs (keyC y):=totK_mem keyC Change.n toK keyC_mk num_mk extC xs y
theorem totC_srt (xs:List Change):Srt keyC lexK (totC xs):=totK_srt keyC Change.n toK keyC_mk num_mk xs
noncomputable def netC (xs:List Change):List Change×Int:=bif xs.any tBad then ([],10) else bif xs.any cBad then ([],150) else bif (totC xs).any cBad then ([],150) else ((totC xs).filter (fun v=>v.n != 0),0)
theorem lwi_iff (n:Int):lwi_F n=true↔-1099511627776≤n∧n≤1099511627776:=by
 unfold lwi_F
 simp
theorem wrS {x:Int} (h:-9223372036854775808≤x∧x≤9223372036854775807):IntKind.i64.wrap x=x:=by
 have:=IntKind.wrap_i64 x
 omega
theorem acc_go:∀ (xs:List Change) (s k:Int) (t:Ky),-(1099511627776 * k)≤s→s≤1099511627776 * k→0≤k→k+xs.length≤1000000→(∀ x∈xs,cBad x=false)→(xs.filter fun x=>decide (keyC x=t)).foldl (fun b x=>addW b x.n) s=s+sumC xs t
 | [],s,k,t,_,_,_,_,_=>by simp[sumK]
 | x :: xs,s,k,t,h1,h2,h0,hk,hx=>by
  have hxk:k+(xs.length:Int)+1≤1000000:=by simp at hk;omega
  have hb:=hx x (List.mem_cons_self ..)
  unfold cBad at hb
  have hw:=(lwi_iff x.n).1 (by simpa using hb)
  by_cases ht:keyC x=t
  ·have e:addW s x.n=s+x.n:=by
    unfold addW
    exact wrS (by omega)
   rw[List.filter_cons,if_pos (by simpa using ht),List.foldl_cons,e,acc_go xs (s+x.n) (k+1) t (by omega) (by omega) (by omega) (by omega) fun y hy=>hx y (List.mem_cons_of_mem _ hy)]
   simp only[sumC,sumK,ht,if_true]
   omega
  ·rw[List.filter_cons,if_neg (by simpa using ht),acc_go xs s k t h1 h2 h0 (by omega) fun y hy=>hx y (List.mem_cons_of_mem _ hy)]
   simp only[sumC,sumK,ht,if_false]
   omega
theorem acc_sum {xs:List Change} (h:xs.length≤KS) (hx:xs.any cBad=false) (t:Ky):accK keyC Change.n addW 0 xs t=sumC xs t:=by
 have:=acc_go xs 0 0 t (by omega) (by omega) (by omega) (by unfold KS at h;omega) fun x hx'=>by
  have:=List.any_eq_false.1 hx x hx'
  simpa using this
 rw[Int.zero_add] at this
 exact this
noncomputable def mapC (xs:List Change):List MK×Nat:=xs.foldl mputC ([],0)
theorem mapC_of (xs:List Change):MapOf keyC Change.n addW 0 xs (mapC xs):=mapOf_all keyC Change.n addW 0 dK xs
theorem mapC_len (xs:List Change):(mapC xs).1.length≤xs.length:=by
 have:=map_len keyC Change.n addW 0 dK xs ([],0)
 have h0:(([],0):List MK×Nat).1.length=0:=rfl
 rw[h0,Nat.zero_add] at this
 exact this
end Go.Proofs.YthnojkbkojpadaaGreat

namespace Go.Proofs.YthnojkbkojpadaaGreat
open Go.RowKit Go.Sx Go.Lp
set_option maxRecDepth 100000
noncomputable abbrev cfC:Change→Change→Int:=fun a b=>lcm_F a b
noncomputable def outC (l:List MK):List Change:=(l.filter fun e=>e.2.1 != (0:Int)).map entC
theorem nor_scan:∀ (l:List MK) (b:List Change),scanM 0 nor_S l b=(.exit 0,b++outC l)
 | [],b=>by simp[scanM,outC]
 | e :: l,b=>by
  show scanM 0 nor_S l (bif e.2.1 != (0:Int) then b++[entC e] else b)=_
  rw[nor_scan l]
  unfold outC
  rw[List.filter_cons]
  cases h:e.2.1 != (0:Int) with
  | true=>simp
  | false=>simp
theorem rest_eqC {xs:List Change} (h:xs.length≤KS) (hx:xs.any cBad=false) {l:List MK} (hl:l.Perm (mapC xs).1) :
  srtBy cfC (outC l)=(totC xs).filter (fun v=>v.n != 0)∧Anti cfC (outC l):=by
 obtain ⟨hb,hk,h1,h2⟩:=mapC_of xs
 have hkd:l.Pairwise fun a b=>a.1≠b.1:=(List.Perm.pairwise_iff (fun h=>Ne.symm h) hl).2 hk
 have hkm:(outC l).Pairwise fun a b=>keyC a≠keyC b:=List.pairwise_map.2 ((hkd.sublist List.filter_sublist).imp fun {a b} hab=>hab)
 have hv:∀ e∈l,e.2.1=sumC xs e.1:=fun e he=>by rw[h2 e (hl.mem_iff.1 he),acc_sum h hx]
 refine ⟨srt_unique keyC Change.n lexK toK extC ?_ ?_ fun y=>?_,fun x hxm y hym k1 k2=>?_⟩
 ·have hs:=srtBy_sorted cfC swoC (outC l)
  have hd:(srtBy cfC (outC l)).Pairwise fun a b=>keyC a≠keyC b:=(List.Perm.pairwise_iff (fun h=>Ne.symm h) (srtBy_perm cfC _)).2 hkm
  exact (hs.and hd).imp fun {a b} hab=>Classical.byContradiction fun hn=>by
   have h3:=hab.1
   simp only[cfC,lcm_lex] at h3
   exact h3 (toK.lt_or hab.2 hn)
 ·exact (totC_srt xs).sublist List.filter_sublist
 ·rw[(srtBy_perm cfC _).mem_iff,outC,List.mem_map,List.mem_filter,totC_mem]
  constructor
  ·rintro ⟨e,he,rfl⟩
   obtain ⟨he,hn⟩:=List.mem_filter.1 he
   have hn:e.2.1≠0:=by simpa using hn
   refine ⟨⟨(h1 e.1).1 ⟨e,hl.mem_iff.1 he,rfl⟩,hv e he⟩,?_⟩
   show (e.2.1 != 0)=true
   simpa using hn
  ·rintro ⟨⟨q1,q2⟩,q3⟩
   have q3:y.n≠0:=by simpa using q3
   obtain ⟨e,he,het⟩:=(h1 (keyC y)).2 q1
   have hv':=hv e (hl.mem_iff.2 he)
   rw[het,← q2] at hv'
   refine ⟨e,List.mem_filter.2 ⟨hl.mem_iff.2 he,by rw[hv'];simpa using q3⟩,extC _ _ het hv'⟩
 ·simp only[cfC,lcm_lex] at k1 k2
  have ht:keyC x=keyC y:=toK.anti _ _ k1 k2
  obtain ⟨a,ha,rfl⟩:=List.mem_map.1 hxm
  obtain ⟨b,hb',rfl⟩:=List.mem_map.1 hym
  have ht:a.1=b.1:=ht
  refine extC _ _ ht ?_
  show a.2.1=b.2.1
  rw[hv a (List.mem_filter.1 ha).1,hv b (List.mem_filter.1 hb').1,ht]
theorem filt_bad (xs:List Change):((totC xs).filter fun v=>v.n != 0).any cBad=(totC xs).any cBad:=by
 rw[Bool.eq_iff_iff,List.any_eq_true,List.any_eq_true]
 constructor
 ·rintro ⟨v,hv,hb⟩
  exact ⟨v,(List.mem_filter.1 hv).1,hb⟩
 ·rintro ⟨v,hv,hb⟩
  refine ⟨v,List.mem_filter.2 ⟨hv,?_⟩,hb⟩
  cases h:v.n != 0 with
  | true=>rfl
  | false=>
   have h:v.n=0:=by simpa using h
   unfold cBad at hb
   rw[h] at hb
   cases hb
end Go.Proofs.YthnojkbkojpadaaGreat

namespace Go.Proofs.YthnojkbkojpadaaGreat
open Go.RowKit Go.Sx Go.Lp
set_option maxRecDepth 100000
theorem foldl_mid {β:Type} (f:β→Change→β):∀ (l:List Change) (a:β) (r:Int),l.foldl (fun (b:Unit×β×Unit×Int) v=>((),f b.2.1 v,(),b.2.2.2)) ((),a,(),r)=((),l.foldl f a,(),r)
 | [],_,_=>rfl
 | _ :: l,a,r=>foldl_mid f l _ r
theorem netf_q1e (cs:List Nat) (xs:List Change) (h:xs.length≤KS):(xs.any cBad=true∧(netf_q1 cs xs).1=.ret∧(netf_q1 cs xs).2.2.2.2.2.2.2=150)∨(xs.any cBad=false∧(netf_q1 cs xs).1=.exit 0∧(netf_q1 cs xs).2.2.2.2.2.1=mapC xs):=by
 have hm:xs.length≤maxLen:=Nat.le_trans h (by decide)
 have hr:loopF nb_RR nb_M (xs,(xs.length:Int),0,(),([],0),(),0)=_:=ix_conj_run (φ:=nb_f) (ψ:=nb_g) (fun _=>rfl) (fun _=>rfl) nb_RF nb_P (xs,(xs.length:Int)) ((),([],0),(),(0:Int)) rfl hm trivial
 have h1:netf_q1 cs xs=loopF nb_RR nb_M (xs,(xs.length:Int),0,(),([],0),(),0):=by
  unfold netf_q1
  rw[eC.lst_els]
  rfl
 rw[hr] at h1
 rcases scan_bad (x:=0) (st:=nb_S (xs,(xs.length:Int))) (e:=.ret) (p:=cBad) (r:=fun _ b=>((),b.2.1,(),(150:Int))) (f:=fun b v=>((),mputC b.2.1 v,(),b.2.2.2)) (by simp) (fun _ _ _=>rfl) xs 0 ((),([],0),(),(0:Int)) with ⟨ha,h2,a,b',_,_,h3⟩ | ⟨ha,h2⟩
 ·refine .inl ⟨ha,?_,?_⟩
  ·rw[h1];exact h2
  ·rw[h1];show (scan 0 (nb_S (xs,(xs.length:Int))) 0 xs ((),([],0),(),(0:Int))).2.2.2.2.2=_;rw[h3]
 ·refine .inr ⟨ha,?_,?_⟩
  ·rw[h1];show (scan 0 (nb_S (xs,(xs.length:Int))) 0 xs ((),([],0),(),(0:Int))).1=_;rw[h2]
  ·rw[h1];show (scan 0 (nb_S (xs,(xs.length:Int))) 0 xs ((),([],0),(),(0:Int))).2.2.2.1=_;rw[h2]
   show (xs.foldl (fun (b:Unit×(List MK×Nat)×Unit×Int) v=>((),mputC b.2.1 v,(),b.2.2.2)) ((),([],0),(),(0:Int))).2.1=_
   rw[foldl_mid];rfl
theorem leftK_nil (mp:List MK):left mp []=mp:=by
 unfold left
 rw[List.filter_eq_self]
 intro a _;rfl
theorem netf_q2e (cs:List Nat) (xs:List Change) (h:(netf_q1 cs xs).2.2.2.2.2.1=mapC xs):(netf_q2 cs xs).2.2.2.2=outC (permC (mapC xs).1.length (hdC cs) (mapC xs).1):=by
 unfold netf_q2 nor_f' nor_up nor_q
 simp only[El.lst_els]
 rw[h]
 have:left (mapC xs).1 (List.map (fun _=>(0:Int)) (List.range 0))=(mapC xs).1:=leftK_nil _
 simp only[this,nor_scan]
 rfl
theorem netf_eq (cs:List Nat) (xs:List Change) (h:xs.length≤KS):netf_side cs xs∧netf_F cs xs=netC xs:=by
 have hm:xs.length≤maxLen:=Nat.le_trans h (by decide)
 have okl:∀ (l:List Change) (e:Nat),eC.Ok (eC.els l e):=fun l e=>El.ok_els _ _ e
 unfold netf_side netf_F netC
 simp only[El.lst_els,ixn_pos xs () hm]
 cases ha:xs.any tBad with
 | true=>exact ⟨⟨fun _ _=>okl _ _,fun h=>(by cases h)⟩,rfl⟩
 | false=>
  have hJ:=ixJ0 (lim:=fun c:nb_GC=>c.2) (xs:=fun c:nb_GC=>c.1) (P:=nb_K) (c:=(xs,(xs.length:Int))) (b:=((),(([],0):List MK×Nat),(),(0:Int))) rfl hm trivial
  rcases netf_q1e cs xs h with ⟨hb,h1,h2⟩ | ⟨hb,h1,h2⟩
  ·rw[h1,h2,hb]
   exact ⟨⟨fun _ _=>okl _ _,fun _=>⟨fun _ _=>okl _ _,fun _ _=>trivial,hJ,fun h=>(by cases h)⟩⟩,rfl⟩
  ·have h3:=netf_q2e cs xs h2
   have hp:(permC (mapC xs).1.length (hdC cs) (mapC xs).1).Perm (mapC xs).1:=permC_perm _ _ _ rfl
   obtain ⟨r1,r2⟩:=rest_eqC h hb hp
   have hlen:(outC (permC (mapC xs).1.length (hdC cs) (mapC xs).1)).length≤KS:=by
    have e1:(outC (permC (mapC xs).1.length (hdC cs) (mapC xs).1)).length≤(permC (mapC xs).1.length (hdC cs) (mapC xs).1).length:=by
     unfold outC
     rw[List.length_map]
     exact List.length_filter_le _ _
    have e2:=hp.length_eq
    have e3:=mapC_len xs
    omega
   rw[h1,h2,h3,hb]
   generalize outC (permC (mapC xs).1.length (hdC cs) (mapC xs).1)=o at r1 r2 hlen
   have hl:(srtBy cfC o).length=o.length:=(srtBy_perm cfC o).length_eq
   have hat:eC.lst o.length (ElE.fn (eC.els (srtBy cfC o))).at=srtBy cfC o:=by
    show eC.lst o.length (eC.els (srtBy cfC o))=_
    rw[← hl,El.lst_els]
   have hml:(srtBy cfC o).length≤maxLen:=by rw[hl];exact Nat.le_trans hlen (by decide)
   have hx:=ixm_pos (srtBy cfC o) () hml
   rw[show (fun a b=>lcm_F a b)=cfC from rfl]
   simp only[hat,hx]
   simp only[r1,filt_bad]
   refine ⟨⟨fun _ _=>okl _ _,fun _=>⟨fun _ _=>okl _ _,fun _ _=>trivial,hJ,fun _=>⟨fun _ _=>trivial,trivial,fun _ _=>trivial,⟨⟨(mapC_of xs).1,(mapC_of xs).2.1,rfl⟩,?_⟩,trivial,fun _ _=>trivial,?_,r2,?_,fun _ _=>okl _ _,fun _=>⟨?_,fun _ _=>okl _ _⟩⟩⟩⟩,?_⟩
   ·have e3:=mapC_len xs
    have:left (mapC xs).1 (List.map (fun _=>(0:Int)) (List.range 0))=(mapC xs).1:=leftK_nil _
    rw[this]
    omega
   ·unfold KS at hlen;omega
   ·rw[← r1,hl];exact Nat.le_refl _
   ·rw[← r1,hl];exact Nat.le_refl _
   ·cases (totC xs).any cBad <;> rfl
theorem netf_ok:FnPure Tryz.prog 29 aLC dLCE netC (fun xs=>[xs.length≤KS]):=
 netf_okA netC _ fun cs xs _ hp=>netf_eq cs xs (hp _ (List.mem_cons_self ..))
end Go.Proofs.YthnojkbkojpadaaGreat

namespace Go.Proofs.YthnojkbkojpadaaGreat
open Go.RowKit Go.Sx Go.Lp
set_option maxRecDepth 100000
noncomputable def rn3_S (c:rn3_GC) (b:rn3_GB) (_:Int) (v:Change):Ex×rn3_GB:=(.normal,b||sameK v (c.1.getD c.2.toNat eC.dflt))
def rn3_K (c:rn3_GC) (_:rn3_GB) (_:Int):Prop:=0≤c.2∧c.2<(c.1.length:Int)
abbrev rn3_I (g:rn3_G):List Prop:=ixI (fun c:rn3_GC=>c.2) (fun c=>c.1.take c.2.toNat) rn3_K (rn3_f g)
abbrev rn3_M (g:rn3_G):Nat:=ixM (fun c:rn3_GC=>c.2) (rn3_f g)
theorem rn3_P:ixP rn3_S (fun c:rn3_GC=>c.1.take c.2.toNat) rn3_K:=fun _ _ _ _ h _ _=>h
noncomputable abbrev rn3_RR (g:rn3_G):Ex×rn3_G:=rn3_R g.1 g.2.1 g.2.2.1 g.2.2.2
theorem rn3_RF (d:Int×rn3_GC×rn3_GB) (hi:allP (ixI (fun c:rn3_GC=>c.2) (fun c=>c.1.take c.2.toNat) rn3_K d)):rn3_RR (rn3_g d)=((ixF 4 (fun c:rn3_GC=>c.2) (fun c=>c.1.take c.2.toNat) eC.dflt rn3_S d).1,rn3_g (ixF 4 (fun c:rn3_GC=>c.2) (fun c=>c.1.take c.2.toNat) eC.dflt rn3_S d).2):=by
 obtain ⟨i,⟨xs,j⟩,b⟩:=d
 obtain ⟨h1,h2,h3,h4,h5⟩:=hi _ (List.mem_cons_self ..)
 have h3:0≤i:=h3
 show rn3_R xs j i b=_
 unfold rn3_R ixF rn3_S sameK
 simp only[El.ag_eq,conjP,conj_T]
 by_cases hlt:i<j
 ·have e:(xs.take j.toNat).getD i.toNat eC.dflt=xs.getD i.toNat eC.dflt:=by
   have:i.toNat<j.toNat:=by omega
   rw[List.getD_eq_getElem?_getD,List.getD_eq_getElem?_getD,List.getElem?_take,if_pos this]
  simp only[hlt,decide_true,cond_true,e]
  rfl
 ·simp only[hlt,decide_false,cond_false]
  rfl
theorem rn3_ok:∀ b∈loopsOf Tryz.prog 30,lkey b=15→LoopOk Tryz.prog b (rn3_C rn3_I rn3_M).g:=by
 refine rn3_loop rn3_I rn3_M (fun g hi=>?_) (ix_conj_goes (fun _=>rfl) (fun _=>rfl) rn3_RF rn3_P)
 obtain ⟨xs,j,i,b⟩:=g
 obtain ⟨h1,h2,h3,h4,h5,h6⟩:=hi _ (List.mem_cons_self ..)
 have h3:0≤i:=h3
 have h5:0≤j:=h5
 have h6:j<(xs.length:Int):=h6
 show rn3_side xs j i b
 unfold rn3_side
 simp only[El.okL_eq,El.ag_eq]
 refine ⟨fun hlt=>?_,fun _=>?_⟩
 ·have hlt:i<j:=by simpa using hlt
  have hr:(0:Int)≤i∧i<(xs.length:Int):=⟨h3,by omega⟩
  have hr2:(0:Int)≤j∧j<(xs.length:Int):=⟨h5,h6⟩
  repeat' (first | exact hr | exact hr2 | apply And.intro | intro _)
  all_goals first | trivial | rfl | omega
 ·repeat' (first | apply And.intro | intro _)
  all_goals first | trivial | rfl | omega
noncomputable def ltN16:LTab Tryz.prog:=((ltN11.cons 76 4 (rsu_C rsu_I rsu_M) rsu_ok).cons 77 7 (rad_C rad_I rad_M) rad_ok).cons 30 15 (rn3_C rn3_I rn3_M) rn3_ok
noncomputable abbrev lamN16:Lam:=ltN16.lam
theorem lamN16_ok:∀ f k L,lamN16 f k=some L→∀ b∈loopsOf Tryz.prog f,lkey b=k→LoopOk Tryz.prog b L.g:=ltN16.ok
noncomputable def tabN16:MTab Tryz.prog:=tabN11.cons 29 (pconR aLC dLCE netC (fun xs=>[xs.length≤KS])) (conR_ok netf_ok)
end Go.Proofs.YthnojkbkojpadaaGreat

namespace Go.Proofs.YthnojkbkojpadaaGreat
open Go.RowKit Go.Sx
set_option maxRecDepth 100000
set_option linter.unusedVariables false
abbrev dIBo2:Dv (Int×Bool):=.tup (.cons dI (.one dBool))
abbrev rLCB:Rv (List Change×Bool):=.tup (.cons (.list eC) (.one (.of dBool)))
noncomputable def suf_q1 (xs:List Change) (c:Change):Ex ×
 rsu_G:=
 loopF (fun g=>rsu_R g.fst g.snd.fst g.snd.snd.fst g.snd.snd.snd.fst g.snd.snd.snd.snd.fst g.snd.snd.snd.snd.snd.fst g.snd.snd.snd.snd.snd.snd.fst g.snd.snd.snd.snd.snd.snd.snd) rsu_M (eC.ag xs,(),c,(0:Int),(0:Int),(0:Int),(0:Int),false)
noncomputable def suf_F (xs:List Change) (c:Change):Dv.T dIBo2:=
 bif exB Ex.ret (suf_q1 xs c).fst then (suf_q1 xs c).snd.snd.snd.snd.snd.snd.snd
 else (bif !(decide ((suf_q1 xs c).snd.snd.snd.snd.snd.fst > (1099511627776:Int))||decide ((suf_q1 xs c).snd.snd.snd.snd.snd.fst<(-1099511627776:Int))) then (suf_q1 xs c).snd.snd.snd.snd.snd.fst else (suf_q1 xs c).snd.snd.snd.snd.snd.fst,!(decide ((suf_q1 xs c).snd.snd.snd.snd.snd.fst > (1099511627776:Int))||decide ((suf_q1 xs c).snd.snd.snd.snd.snd.fst<(-1099511627776:Int)))&&decide ((suf_q1 xs c).snd.snd.snd.snd.snd.snd.fst<(1048576:Int)))
def suf_side (xs:List Change) (c:Change):Prop:=
 eC.okL xs∧Lp.ixJ (fun c=>(↑c.fst.length:Int)) (fun c=>c.fst) rsu_K (rsu_f (eC.ag xs,(),c,(0:Int),(0:Int),(0:Int),(0:Int),false))
theorem suf_okS (pre:DA.T aLCC→List Prop) (h:∀ g,DA.bd aLCC g→(∀ p∈pre g,p)→suf_side g.1 g.2):FnPure Tryz.prog 76 aLCC dIBo2 (fun g=>suf_F g.1 g.2) pre:=pure_of_sideS (Γ:=(MTab.gamz tabN16 [] [])) (Λ:=lamN16) (MTab.okz tabN16 [] []) lamN16_ok 100 default (fun g=>suf_side g.1 g.2) (fun g=>by kernel_rfl) (fun g=>by kernel_rfl) h
noncomputable def adf_q1 (xs:List Change) (c:Change):Ex ×
 rad_G:=
 loopF (fun g=>rad_R g.fst g.snd.fst g.snd.snd.fst g.snd.snd.snd.fst g.snd.snd.snd.snd.fst g.snd.snd.snd.snd.snd.fst g.snd.snd.snd.snd.snd.snd) rad_M (eC.ag xs,(),c,(0:Int),[],false,true)
noncomputable def adf_F (xs:List Change) (c:Change):Rv.T rLCB:=
 bif decide (c.n > (1099511627776:Int))||decide (c.n<(-1099511627776:Int)) then ([],false)
 else bif !(adf_q1 xs c).snd.snd.snd.snd.snd.snd.fst then (eC.lst (min ((adf_q1 xs c).snd.snd.snd.snd.snd.fst.length+(1:Nat)) (adf_q1 xs c).snd.snd.snd.snd.snd.fst.length) (eC.els (adf_q1 xs c).snd.snd.snd.snd.snd.fst)++List.map (fun x=>(adf_q1 xs c).snd.snd.snd.fst) (List.range ((adf_q1 xs c).snd.snd.snd.snd.snd.fst.length+(1:Nat) - (adf_q1 xs c).snd.snd.snd.snd.snd.fst.length)),(adf_q1 xs c).snd.snd.snd.snd.snd.snd.snd) else (eC.ag (adf_q1 xs c).snd.snd.snd.snd.snd.fst,(adf_q1 xs c).snd.snd.snd.snd.snd.snd.snd)
def adf_side (xs:List Change) (c:Change):Prop:=
 (decide (c.n > (1099511627776:Int))||decide (c.n<(-1099511627776:Int)))=false→eC.okL xs∧Lp.ixJ (fun c=>(↑c.fst.length:Int)) (fun c=>c.fst) rad_K (rad_f (eC.ag xs,(),c,(0:Int),[],false,true))∧((!(adf_q1 xs c).snd.snd.snd.snd.snd.snd.fst)=true→((adf_q1 xs c).snd.snd.snd.snd.snd.fst.length≤(adf_q1 xs c).snd.snd.snd.snd.snd.fst.length∧True∧(adf_q1 xs c).snd.snd.snd.snd.snd.fst.length+(1:Nat)≤maxLen∧((adf_q1 xs c).snd.snd.snd.snd.snd.fst.length+(1:Nat)) * Tryz.prog.types[(59:Nat)].bytes≤(140737488355328:Nat))∧(adf_q1 xs c).snd.snd.snd.snd.snd.fst.length+(1:Nat)≤(adf_q1 xs c).snd.snd.snd.snd.snd.fst.length+(1:Nat)∧(∀ (e:Nat),e<min ((adf_q1 xs c).snd.snd.snd.snd.snd.fst.length+(1:Nat)) (adf_q1 xs c).snd.snd.snd.snd.snd.fst.length→True)∧∀ (e:Nat),e<(adf_q1 xs c).snd.snd.snd.snd.snd.fst.length+(1:Nat) - (adf_q1 xs c).snd.snd.snd.snd.snd.fst.length→True)∧((!(adf_q1 xs c).snd.snd.snd.snd.snd.snd.fst)=false→(adf_q1 xs c).snd.snd.snd.snd.snd.fst.length≤(adf_q1 xs c).snd.snd.snd.snd.snd.fst.length∧∀ (e:Nat),e<(adf_q1 xs c).snd.snd.snd.snd.snd.fst.length→True)
theorem adf_okS (pre:DA.T aLCC→List Prop) (h:∀ g,DA.bd aLCC g→(∀ p∈pre g,p)→adf_side g.1 g.2):FnPure Tryz.prog 77 aLCC (Rv.D rLCB) (fun g=>adf_F g.1 g.2) pre:=res_of_side (R:=rLCB) (Γ:=(MTab.gamz tabN16 [] [])) (Λ:=lamN16) (MTab.okz tabN16 [] []) lamN16_ok 100 default (fun g=>adf_side g.1 g.2) (fun g=>by kernel_rfl) (fun g=>by kernel_rfl) h
end Go.Proofs.YthnojkbkojpadaaGreat

namespace Go.Proofs.YthnojkbkojpadaaGreat
open Go.RowKit Go.Sx Go.Lp
set_option maxRecDepth 100000
noncomputable def suSt (c:Change) (b:Int×Int) (v:Change):Int×Int:=(bif sameK v c then IntKind.i64.wrap (b.1+v.n) else b.1,bif sameK v c then IntKind.i64.wrap (b.2+1) else b.2)
noncomputable def suC (xs:List Change) (c:Change):Int×Bool:=bif xs.any (fun v=>sameK v c&&rby_F v.n) then (0,false) else ((xs.foldl (suSt c) (0,0)).1,!rby_F (xs.foldl (suSt c) (0,0)).1&&decide ((xs.foldl (suSt c) (0,0)).2<(1048576:Int)))
theorem su_fold (c:Change):∀ (l:List Change) (a:Int×Int) (r:Int) (o:Bool),l.foldl (fun (b:Unit×Int×Int×Int×Bool) v=>((),(suSt c (b.2.1,b.2.2.1) v).1,(suSt c (b.2.1,b.2.2.1) v).2,b.2.2.2)) ((),a.1,a.2,r,o)=((),(l.foldl (suSt c) a).1,(l.foldl (suSt c) a).2,r,o)
 | [],_,_,_=>rfl
 | v :: l,a,r,o=>su_fold c l (suSt c a v) r o
theorem suf_eq (xs:List Change) (c:Change) (hm:xs.length≤maxLen):suf_F xs c=suC xs c:=by
 have hr:loopF rsu_RR rsu_M (xs,(),c,0,0,0,0,false)=_:=ix_conj_run (φ:=rsu_f) (ψ:=rsu_g) (fun _=>rfl) (fun _=>rfl) rsu_RF rsu_P (xs,c) ((),(0:Int),(0:Int),(0:Int),false) rfl hm trivial
 have h1:suf_q1 xs c=loopF rsu_RR rsu_M (xs,(),c,0,0,0,0,false):=by
  unfold suf_q1
  rw[El.ag_eq]
 rw[hr] at h1
 unfold suf_F suC
 rcases scan_bad (x:=0) (st:=rsu_S (xs,c)) (e:=.ret) (p:=fun v=>sameK v c&&rby_F v.n) (r:=fun _ b=>((),b.2.1,b.2.2.1,(0:Int),false)) (f:=fun b v=>((),(suSt c (b.2.1,b.2.2.1) v).1,(suSt c (b.2.1,b.2.2.1) v).2,b.2.2.2)) (by simp) (fun _ _ _=>rfl) xs 0 ((),(0:Int),(0:Int),(0:Int),false) with ⟨ha,h2,a,b',_,_,h3⟩ | ⟨ha,h2⟩
 ·rw[h1,ha]
  have e1:(scan 0 (rsu_S (xs,c)) 0 xs ((),(0:Int),(0:Int),(0:Int),false)).1=.ret:=h2
  show (bif exB Ex.ret (scan 0 (rsu_S (xs,c)) 0 xs ((),(0:Int),(0:Int),(0:Int),false)).1 then (scan 0 (rsu_S (xs,c)) 0 xs ((),(0:Int),(0:Int),(0:Int),false)).2.2.2.2.2 else _)=_
  rw[e1]
  have e2:(scan 0 (rsu_S (xs,c)) 0 xs ((),(0:Int),(0:Int),(0:Int),false)).2.2=_:=h3
  rw[e2]
  rfl
 ·rw[su_fold c xs (0,0)] at h2
  have h2:scan 0 (rsu_S (xs,c)) 0 xs ((),(0:Int),(0:Int),(0:Int),false)=_:=h2
  rw[h1,ha,h2]
  have e:∀ (z:Bool) (x:Int),(bif z then x else x)=x:=fun z x=>by cases z <;> rfl
  show (bif !rby_F (xs.foldl (suSt c) (0,0)).1 then (xs.foldl (suSt c) (0,0)).1 else (xs.foldl (suSt c) (0,0)).1,!rby_F (xs.foldl (suSt c) (0,0)).1&&decide ((xs.foldl (suSt c) (0,0)).2<(1048576:Int)))=_
  rw[e]
  rfl
theorem suf_c:FnPure Tryz.prog 76 aLCC dIBo2 (fun g=>suC g.1 g.2) (fun _=>[]):=by
 refine pure_congr (suf_okS (fun _=>[]) fun g hb hp=>?_) fun g hb hp=>suf_eq g.1 g.2 hb.1.1
 obtain ⟨xs,c⟩:=g
 have hm:xs.length≤maxLen:=hb.1.1
 show suf_side xs c
 unfold suf_side
 simp only[El.okL_eq,El.ag_eq]
 exact ⟨trivial,ixJ0 rfl hm trivial⟩
end Go.Proofs.YthnojkbkojpadaaGreat

namespace Go.Proofs.YthnojkbkojpadaaGreat
open Go.RowKit Go.Sx Go.Lp
set_option maxRecDepth 100000
noncomputable def adSt (c:Change) (z:List Change×Bool×Bool) (v:Change):List Change×Bool×Bool:=(bif !z.2.1&&decide (ror_F c v<(0:Int)) then (z.1++[c])++[radX c v] else z.1++[radX c v],bif !z.2.1&&decide (ror_F c v<(0:Int)) then true else ror_F c v==(0:Int)||z.2.1,bif ror_F c v==(0:Int) then !rby_F (IntKind.i64.wrap (v.n+c.n)) else z.2.2)
noncomputable def adZ (xs:List Change) (c:Change):List Change×Bool×Bool:=xs.foldl (adSt c) ([],false,true)
noncomputable def adC (xs:List Change) (c:Change):List Change×Bool:=bif rby_F c.n then ([],false) else (bif !(adZ xs c).2.1 then (adZ xs c).1++[c] else (adZ xs c).1,(adZ xs c).2.2)
theorem ad_fold (c:Change):∀ (l:List Change) (z:List Change×Bool×Bool),l.foldl (fun (b:Unit×List Change×Bool×Bool) v=>((),adSt c b.2 v)) ((),z)=((),l.foldl (adSt c) z)
 | [],_=>rfl
 | v :: l,z=>ad_fold c l (adSt c z v)
theorem ad_len (c:Change):∀ (l:List Change) (z:List Change×Bool×Bool),(l.foldl (adSt c) z).1.length+(bif z.2.1 then 1 else 0)≤z.1.length+l.length+(bif (l.foldl (adSt c) z).2.1 then 1 else 0)
 | [],z=>by simp
 | v :: l,z=>by
  have ih:=ad_len c l (adSt c z v)
  rw[List.foldl_cons,List.length_cons]
  have h:(adSt c z v).1.length+(bif z.2.1 then 1 else 0)≤z.1.length+1+(bif (adSt c z v).2.1 then 1 else 0):=by
   unfold adSt
   generalize decide (ror_F c v<(0:Int))=y
   generalize (ror_F c v==(0:Int))=w
   cases z.2.1 <;> cases y <;> cases w <;> simp
  omega
theorem adf_q (xs:List Change) (c:Change) (hm:xs.length≤KS):∃ j,adf_q1 xs c=(.exit 0,xs,(),c,j,(adZ xs c).1,(adZ xs c).2.1,(adZ xs c).2.2):=by
 have hr:loopF rad_RR rad_M (xs,(),c,0,[],false,true)=_:=ix_conj_run (φ:=rad_f) (ψ:=rad_g) (fun _=>rfl) (fun _=>rfl) rad_RF rad_P (xs,c) ((),[],false,true) rfl (Nat.le_trans hm (by decide)) ⟨hm,by show (0:Int)≤0+0;omega⟩
 have hs:=scan_fold (x:=0) (st:=rad_S (xs,c)) (f:=fun (b:Unit×List Change×Bool×Bool) v=>((),adSt c b.2 v)) (fun _ _ _=>rfl) xs 0 ((),[],false,true)
 rw[ad_fold] at hs
 refine ⟨0+(xs.length:Int),?_⟩
 unfold adf_q1
 rw[El.ag_eq]
 refine hr.trans ?_
 rw[hs]
 rfl
theorem adf_c:FnPure Tryz.prog 77 aLCC (Rv.D rLCB) (fun g=>adC g.1 g.2) (fun g=>[g.1.length≤KS]):=by
 refine pure_congr (adf_okS (fun g=>[g.1.length≤KS]) fun g hb hp=>?_) fun g hb hp=>?_
 ·obtain ⟨xs,c⟩:=g
  have hm:xs.length≤KS:=hp _ (List.mem_cons_self ..)
  obtain ⟨j,hq⟩:=adf_q xs c hm
  have hl:=ad_len c xs ([],false,true)
  have hl2:(adZ xs c).1.length≤1000001:=by
   have hl:(adZ xs c).1.length+0≤0+xs.length+(bif (adZ xs c).2.1 then 1 else 0):=hl
   unfold KS at hm
   cases h:(adZ xs c).2.1 <;> rw[h] at hl <;> simp only[cond_true,cond_false] at hl <;> omega
  show adf_side xs c
  unfold adf_side
  simp only[El.okL_eq,El.ag_eq,hq,byt59]
  refine fun _=>⟨trivial,ixJ0 rfl (Nat.le_trans hm (by decide)) ⟨hm,by show (0:Int)≤0+0;omega⟩,fun _=>?_,fun _=>?_⟩
  ·repeat' (first | exact (fun _ _=>trivial) | apply And.intro)
   all_goals first | trivial | omega | (unfold maxLen;omega)
  ·repeat' (first | exact (fun _ _=>trivial) | apply And.intro)
   all_goals first | trivial | omega | exact Nat.le_refl _
 ·obtain ⟨xs,c⟩:=g
  have hm:xs.length≤KS:=hp _ (List.mem_cons_self ..)
  obtain ⟨j,hq⟩:=adf_q xs c hm
  show adf_F xs c=adC xs c
  unfold adf_F adC
  rw[hq]
  simp only[El.ag_eq,lst_snoc]
  show (bif rby_F c.n then _ else _)=_
  cases rby_F c.n with
  | true=>rfl
  | false=>cases (adZ xs c).2.1 <;> rfl
noncomputable def tabN19:MTab Tryz.prog:=(tabN16.cons 76 (pconP aLCC dIBo2 (fun g=>suC g.1 g.2) (fun _=>[])) (conP_ok suf_c fun _=>pu_tup (pus_cons (pu_v _) (pus_cons (pu_v _) pus_nil)))).cons 77 (pconR aLCC (Rv.D rLCB) (fun g=>adC g.1 g.2) (fun g=>[g.1.length≤KS])) (conR_ok adf_c)
end Go.Proofs.YthnojkbkojpadaaGreat

namespace Go.Proofs.YthnojkbkojpadaaGreat
open Go.RowKit Go.Sx
set_option maxRecDepth 100000
set_option linter.unusedVariables false
noncomputable def rn2_q1 (xs:List Change) (i:Int) (o:List Change) (_u:Unit) (r:Int):Ex ×
 rn3_G:=
 loopF (fun g=>rn3_R g.fst g.snd.fst g.snd.snd.fst g.snd.snd.snd) rn3_M (eC.ag xs,i,(0:Int),false)
abbrev rn2_G:Type:=List Change×Int×List Change×Unit×Int
noncomputable def rn2_LP:LP 0 rn2_G:=.pair (.slot 0 0 dLC) (.pair (.slot 0 6 dI) (.pair (.slot 0 5 dLC) (.pair (.fix 0 2 (.k (.slice none 0 0))) (.slot 0 3 dI))))
noncomputable def rn2_R (xs:List Change) (i:Int) (o:List Change) (_u:Unit) (r:Int):Ex×rn2_G:=
 bif decide (i<(↑xs.length:Int)) then bif !(suC (eC.ag xs) (xs.getD i.toNat eC.dflt)).snd then (Ex.ret,eC.ag xs,i,eC.ag o,(),(150:Int)) else (Ex.normal,eC.ag (rn2_q1 xs i o _u r).snd.fst,IntKind.i64.wrap ((rn2_q1 xs i o _u r).snd.snd.fst+(1:Int)),eC.lst (bif !(rn2_q1 xs i o _u r).snd.snd.snd.snd then (adC (eC.ag o) (Change.mk ((rn2_q1 xs i o _u r).snd.fst.getD (rn2_q1 xs i o _u r).snd.snd.fst.toNat eC.dflt).p ((rn2_q1 xs i o _u r).snd.fst.getD (rn2_q1 xs i o _u r).snd.snd.fst.toNat eC.dflt).t (suC (eC.ag xs) (xs.getD i.toNat eC.dflt)).fst)).fst.length else o.length) (bif !(rn2_q1 xs i o _u r).snd.snd.snd.snd then eC.els (adC (eC.ag o) (Change.mk ((rn2_q1 xs i o _u r).snd.fst.getD (rn2_q1 xs i o _u r).snd.snd.fst.toNat eC.dflt).p ((rn2_q1 xs i o _u r).snd.fst.getD (rn2_q1 xs i o _u r).snd.snd.fst.toNat eC.dflt).t (suC (eC.ag xs) (xs.getD i.toNat eC.dflt)).fst)).fst else eC.els o),(),r)
 else (Ex.exit (2:Nat),eC.ag xs,i,eC.ag o,(),r)
def rn2_side (xs:List Change) (i:Int) (o:List Change) (_u:Unit) (r:Int):Prop:=
 (decide (i<(↑xs.length:Int))=true→((0:Int)≤i∧i<(↑xs.length:Int))∧eC.okL xs∧((!(suC (eC.ag xs) (xs.getD i.toNat eC.dflt)).snd)=true→eC.okL xs∧eC.okL o)∧((!(suC (eC.ag xs) (xs.getD i.toNat eC.dflt)).snd)=false→eC.okL xs∧Lp.ixJ (fun c=>c.snd) (fun c=>List.take c.snd.toNat c.fst) rn3_K (rn3_f (eC.ag xs,i,(0:Int),false))∧((!(rn2_q1 xs i o _u r).snd.snd.snd.snd)=true→(0:Int)≤(rn2_q1 xs i o _u r).snd.snd.fst∧(rn2_q1 xs i o _u r).snd.snd.fst<(↑(rn2_q1 xs i o _u r).snd.fst.length:Int))∧((!(rn2_q1 xs i o _u r).snd.snd.snd.snd)=true→(0:Int)≤(rn2_q1 xs i o _u r).snd.snd.fst∧(rn2_q1 xs i o _u r).snd.snd.fst<(↑(rn2_q1 xs i o _u r).snd.fst.length:Int))∧((!(rn2_q1 xs i o _u r).snd.snd.snd.snd)=true→eC.okL o)∧((!(rn2_q1 xs i o _u r).snd.snd.snd.snd)=true→(eC.ag o).length≤KS)∧eC.okL (rn2_q1 xs i o _u r).snd.fst∧∀ (e:Nat),(e<bif !(rn2_q1 xs i o _u r).snd.snd.snd.snd then (adC (eC.ag o) (Change.mk ((rn2_q1 xs i o _u r).snd.fst.getD (rn2_q1 xs i o _u r).snd.snd.fst.toNat eC.dflt).p ((rn2_q1 xs i o _u r).snd.fst.getD (rn2_q1 xs i o _u r).snd.snd.fst.toNat eC.dflt).t (suC (eC.ag xs) (xs.getD i.toNat eC.dflt)).fst)).fst.length else o.length)→eC.Ok ((bif !(rn2_q1 xs i o _u r).snd.snd.snd.snd then eC.els (adC (eC.ag o) (Change.mk ((rn2_q1 xs i o _u r).snd.fst.getD (rn2_q1 xs i o _u r).snd.snd.fst.toNat eC.dflt).p ((rn2_q1 xs i o _u r).snd.fst.getD (rn2_q1 xs i o _u r).snd.snd.fst.toNat eC.dflt).t (suC (eC.ag xs) (xs.getD i.toNat eC.dflt)).fst)).fst else eC.els o) e)))∧(decide (i<(↑xs.length:Int))=false→eC.okL xs∧eC.okL o)
theorem rn2_one:((loopsOf Tryz.prog 30).filter fun c=>Nat.beq (lkey c) 8).length=1:=by kernel_rfl
abbrev rn2_GC:Type:=List Change
abbrev rn2_GB:Type:=List Change×Unit×Int
def rn2_f (g:rn2_G):Int×rn2_GC×rn2_GB:=(g.2.1,g.1,(g.2.2.1,g.2.2.2.1,g.2.2.2.2))
def rn2_g (d:Int×rn2_GC×rn2_GB):rn2_G:=(d.2.1,d.1,d.2.2.1,d.2.2.2.1,d.2.2.2.2)
theorem rn2_es (g:rn2_G):(rn2_R g.1 g.2.1 g.2.2.1 g.2.2.2.1 g.2.2.2.2).1=.normal∨(rn2_R g.1 g.2.1 g.2.2.1 g.2.2.2.1 g.2.2.2.2).1∈([.ret,.exit 2]:List Ex):=by
 unfold rn2_R
 repeat' (first | (left;rfl) | (right;simp only[cond_true,cond_false];simp;done) | (rw[Bool.cond_eq_ite];split))
noncomputable abbrev rn2_C (Inv:rn2_G→List Prop) (m:rn2_G→Nat):LCon:=loopR [.ret,.exit 2] (loopBody Tryz.prog 30 8) rn2_LP [] 94 Inv (fun g=>rn2_R g.1 g.2.1 g.2.2.1 g.2.2.2.1 g.2.2.2.2) m
theorem rn2_loop (Inv:rn2_G→List Prop) (m:rn2_G→Nat) (hs:∀ g,allP (Inv g)→rn2_side g.1 g.2.1 g.2.2.1 g.2.2.2.1 g.2.2.2.2) (hg:Goes (fun g:rn2_G=>rn2_R g.1 g.2.1 g.2.2.1 g.2.2.2.1 g.2.2.2.2) m fun g=>allP (Inv g)):∀ b∈loopsOf Tryz.prog 30,lkey b=8→LoopOk Tryz.prog b (rn2_C Inv m).g:=loop_run (Γ:=(MTab.gamz tabN19 [] [])) (Λ:=lamN16) (MTab.okz tabN19 [] []) lamN16_ok 100 30 8 94 rn2_LP [] Inv (fun g=>rn2_R g.1 g.2.1 g.2.2.1 g.2.2.2.1 g.2.2.2.2) (fun g=>rn2_side g.1 g.2.1 g.2.2.1 g.2.2.2.1 g.2.2.2.2) m default [.ret,.exit 2] rn2_one (fun rd T B HL HB ds g=>by kernel_rfl) (fun rd T B HL HB ds g=>by kernel_rfl) hs hg rn2_es
end Go.Proofs.YthnojkbkojpadaaGreat

namespace Go.Proofs.YthnojkbkojpadaaGreat
open Go.RowKit Go.Sx Go.Lp
set_option maxRecDepth 100000
noncomputable def rnHave (xs:List Change) (i:Int) (v:Change):Bool:=(xs.take i.toNat).any fun x=>sameK x v
noncomputable def rn2_S (c:rn2_GC) (b:rn2_GB) (i:Int) (v:Change):Ex×rn2_GB:=bif !(suC c v).2 then (.ret,(b.1,(),150)) else (.normal,(bif !rnHave c i v then (adC b.1 ⟨v.p,v.t,(suC c v).1⟩).1 else b.1,(),b.2.2))
def rn2_K (c:rn2_GC) (b:rn2_GB) (i:Int):Prop:=List.length c≤1000∧(List.length b.1:Int)≤2 * i
theorem adC_len (xs:List Change) (c:Change):(adC xs c).1.length≤xs.length+2:=by
 have hl:=ad_len c xs ([],false,true)
 have hl:(adZ xs c).1.length+0≤0+xs.length+(bif (adZ xs c).2.1 then 1 else 0):=hl
 unfold adC
 cases rby_F c.n with
 | true=>exact Nat.zero_le _
 | false=>
  cases h:(adZ xs c).2.1 <;> rw[h] at hl <;> simp only[cond_true,cond_false,Bool.not_true,Bool.not_false,List.length_append,List.length_cons,List.length_nil] at hl ⊢ <;> omega
theorem rn2_P:ixP rn2_S (fun c:rn2_GC=>c) rn2_K:=by
 rintro c ⟨o,⟨⟩,r⟩ i v ⟨h1,h2⟩ _ hn
 have h2:(o.length:Int)≤2 * (i:Int):=h2
 unfold rn2_S at hn ⊢
 cases hz:(suC c v).2 with
 | false=>rw[hz] at hn;cases hn
 | true=>
  refine ⟨h1,?_⟩
  have h3:=adC_len o ⟨v.p,v.t,(suC c v).1⟩
  show (List.length (bif !rnHave c i v then (adC o ⟨v.p,v.t,(suC c v).1⟩).1 else o):Int)≤2 * ((i:Int)+1)
  cases rnHave c i v <;> simp only[Bool.not_true,Bool.not_false,cond_true,cond_false] <;> omega
abbrev rn2_I (g:rn2_G):List Prop:=ixI (fun c:rn2_GC=>(List.length c:Int)) (fun c=>c) rn2_K (rn2_f g)
abbrev rn2_M (g:rn2_G):Nat:=ixM (fun c:rn2_GC=>(List.length c:Int)) (rn2_f g)
noncomputable abbrev rn2_RR (g:rn2_G):Ex×rn2_G:=rn2_R g.1 g.2.1 g.2.2.1 g.2.2.2.1 g.2.2.2.2
theorem or_foldB {α:Type} (q:α→Bool):∀ (l:List α) (b:Bool),l.foldl (fun b v=>b||q v) b=(b||l.any q)
 | [],b=>by simp
 | v :: l,b=>by rw[List.foldl_cons,or_foldB q l,List.any_cons,Bool.or_assoc]
theorem rn3_run (xs:List Change) (j:Int) (h1:0≤j) (h2:j<(xs.length:Int)) (hm:xs.length≤maxLen):loopF rn3_RR rn3_M (xs,j,0,false)=(.exit 4,xs,j,j,rnHave xs j (xs.getD j.toNat eC.dflt)):=by
 have hl:(xs.take j.toNat).length=j.toNat:=by rw[List.length_take];omega
 have hr:loopF rn3_RR rn3_M (xs,j,0,false)=_:=ix_conj_run (φ:=rn3_f) (ψ:=rn3_g) (fun _=>rfl) (fun _=>rfl) rn3_RF rn3_P (xs,j) false (by show j=((xs.take j.toNat).length:Int);rw[hl];omega) (by show (xs.take j.toNat).length≤maxLen;rw[hl];omega) ⟨h1,h2⟩
 have hs:=scan_fold (x:=4) (st:=rn3_S (xs,j)) (f:=fun b v=>b||sameK v (xs.getD j.toNat eC.dflt)) (fun _ _ _=>rfl) (xs.take j.toNat) 0 false
 rw[or_foldB] at hs
 refine hr.trans ?_
 have hs:scan 4 (rn3_S (xs,j)) 0 ((fun c:rn3_GC=>c.1.take c.2.toNat) (xs,j)) false=_:=hs
 rw[hs]
 show (Ex.exit 4,xs,j,0+((xs.take j.toNat).length:Int),_)=_
 rw[hl,show (0:Int)+(j.toNat:Int)=j by omega]
 rfl
theorem rn2_qe (xs:List Change) (i:Int) (o:List Change) (r:Int) (h1:0≤i) (h2:i<(xs.length:Int)) (hm:xs.length≤maxLen):rn2_q1 xs i o () r=(.exit 4,xs,i,i,rnHave xs i (xs.getD i.toNat eC.dflt)):=by
 unfold rn2_q1
 rw[El.ag_eq]
 exact rn3_run xs i h1 h2 hm
theorem rn2_RF (d:Int×rn2_GC×rn2_GB) (hi:allP (ixI (fun c:rn2_GC=>(List.length c:Int)) (fun c=>c) rn2_K d)):rn2_RR (rn2_g d)=((ixF 2 (fun c:rn2_GC=>(List.length c:Int)) (fun c=>c) eC.dflt rn2_S d).1,rn2_g (ixF 2 (fun c:rn2_GC=>(List.length c:Int)) (fun c=>c) eC.dflt rn2_S d).2):=by
 obtain ⟨i,xs,⟨o,⟨⟩,r⟩⟩:=d
 obtain ⟨_,hm,h3,_,_⟩:=hi _ (List.mem_cons_self ..)
 have hm:xs.length≤maxLen:=hm
 have h3:0≤i:=h3
 show rn2_R xs i o () r=_
 unfold rn2_R ixF rn2_S
 by_cases hlt:i<(xs.length:Int)
 ·rw[rn2_qe xs i o r h3 hlt hm]
  simp only[El.ag_eq,hlt,decide_true,cond_true]
  cases (suC xs (xs.getD i.toNat eC.dflt)).2 with
  | false=>rfl
  | true=>
   simp only[Bool.not_true,cond_false]
   cases rnHave xs i (xs.getD i.toNat eC.dflt) with
   | true=>simp only[Bool.not_true,cond_false,El.lst_els];rfl
   | false=>simp only[Bool.not_false,cond_true,El.lst_els];rfl
 ·simp only[El.ag_eq,hlt,decide_false,cond_false]
  rfl
end Go.Proofs.YthnojkbkojpadaaGreat

namespace Go.Proofs.YthnojkbkojpadaaGreat
open Go.RowKit Go.Sx Go.Lp
set_option maxRecDepth 100000
theorem rn2_ok:∀ b∈loopsOf Tryz.prog 30,lkey b=8→LoopOk Tryz.prog b (rn2_C rn2_I rn2_M).g:=by
 refine rn2_loop rn2_I rn2_M (fun g hi=>?_) (ix_conj_goes (fun _=>rfl) (fun _=>rfl) rn2_RF rn2_P)
 obtain ⟨xs,i,o,⟨⟩,r⟩:=g
 obtain ⟨h1,h2,h3,h4,h5,h6⟩:=hi _ (List.mem_cons_self ..)
 have h3:0≤i:=h3
 have h4:i≤(xs.length:Int):=h4
 have h5:xs.length≤1000:=h5
 have h6:(o.length:Int)≤2 * i:=h6
 have hm:xs.length≤maxLen:=by unfold maxLen;omega
 have ho:o.length≤KS:=by unfold KS;omega
 show rn2_side xs i o () r
 unfold rn2_side
 simp only[El.okL_eq,El.ag_eq]
 refine ⟨fun hlt=>?_,fun _=>⟨trivial,trivial⟩⟩
 have hr:=rngP i _ _ rfl h3 hlt
 have hlt':i<(xs.length:Int):=hr.2
 rw[rn2_qe xs i o r h3 hlt' hm]
 have hl:(xs.take i.toNat).length=i.toNat:=by rw[List.length_take];omega
 have hJ:ixJ (fun c:rn3_GC=>c.2) (fun c=>c.1.take c.2.toNat) rn3_K (rn3_f (xs,i,0,false)):=ixJ0 (by show i=((xs.take i.toNat).length:Int);rw[hl];omega) (by show (xs.take i.toNat).length≤maxLen;rw[hl];omega) ⟨h3,hlt'⟩
 refine ⟨hr,trivial,fun _=>⟨trivial,trivial⟩,fun _=>⟨trivial,hJ,fun _=>hr,fun _=>hr,fun _=>trivial,fun _=>ho,trivial,?_⟩⟩
 intro e he
 generalize rnHave xs i (xs.getD i.toNat eC.dflt)=z at he ⊢
 cases z with
 | true=>exact El.ok_els _ _ e
 | false=>exact El.ok_els _ _ e
noncomputable def ltN22:LTab Tryz.prog:=ltN16.cons 30 8 (rn2_C rn2_I rn2_M) rn2_ok
end Go.Proofs.YthnojkbkojpadaaGreat

namespace Go.Proofs.YthnojkbkojpadaaGreat
open Go.RowKit Go.Sx Go.Lp
set_option maxRecDepth 100000
noncomputable def nouC (xs:List Change):List Change:=xs.filter fun v=>v.n != 0
theorem nou_fold:∀ (l b:List Change),l.foldl (fun (b:List Change) v=>bif v.n != (0:Int) then b++[v] else b) b=b++nouC l
 | [],b=>by simp[nouC]
 | v :: l,b=>by
  rw[List.foldl_cons,nou_fold l]
  unfold nouC
  rw[List.filter_cons]
  cases h:v.n != (0:Int) <;> simp
theorem rnof_q (xs:List Change) (h:xs.length≤KS):rnof_q1 xs=(.exit 0,xs,(xs.length:Int),nouC xs):=by
 have hr:loopF rno_RR rno_M (xs,0,[])=_:=rno_run xs [] rfl h rfl
 have hs:=scan_fold (x:=0) (st:=rno_S xs) (f:=fun (b:List Change) v=>bif v.n != (0:Int) then b++[v] else b) (fun _ _ _=>rfl) xs 0 []
 rw[nou_fold,List.nil_append,Int.zero_add] at hs
 unfold rnof_q1
 rw[El.ag_eq]
 refine hr.trans ?_
 rw[hs]
 rfl
theorem rnof_c:FnPure Tryz.prog 78 aLC (Rv.D (.list eC)) nouC (fun xs=>[xs.length≤KS]):=by
 refine pure_congr (rnof_okS (fun xs=>[xs.length≤KS]) fun xs hb hp=>?_) fun xs hb hp=>?_
 ·have h:xs.length≤KS:=hp _ (List.mem_cons_self ..)
  show rnof_side xs
  unfold rnof_side
  simp only[El.okL_eq,El.ag_eq,rnof_q xs h]
  exact ⟨trivial,rno_ix xs [] rfl h rfl,Nat.le_refl _,fun _ _=>trivial⟩
 ·have h:xs.length≤KS:=hp _ (List.mem_cons_self ..)
  show rnof_F xs=nouC xs
  unfold rnof_F
  rw[rnof_q xs h,El.ag_eq]
noncomputable abbrev lamN23:Lam:=ltN22.lam
theorem lamN23_ok:∀ f k L,lamN23 f k=some L→∀ b∈loopsOf Tryz.prog f,lkey b=k→LoopOk Tryz.prog b L.g:=ltN22.ok
noncomputable def tabN23:MTab Tryz.prog:=tabN19.cons 78 (pconR aLC (Rv.D (.list eC)) nouC (fun xs=>[xs.length≤KS])) (conR_ok rnof_c)
end Go.Proofs.YthnojkbkojpadaaGreat

namespace Go.Proofs.YthnojkbkojpadaaGreat
open Go.RowKit Go.Sx
set_option maxRecDepth 100000
set_option linter.unusedVariables false
end Go.Proofs.YthnojkbkojpadaaGreat

namespace Go.Proofs.YthnojkbkojpadaaGreat
open Go.RowKit Go.Sx Go.Lp
set_option maxRecDepth 100000
end Go.Proofs.YthnojkbkojpadaaGreat

namespace Go.Proofs.YthnojkbkojpadaaGreat
open Go.RowKit Go.Sx Go.Lp
set_option maxRecDepth 100000
end Go.Proofs.YthnojkbkojpadaaGreat

namespace Go.Proofs.YthnojkbkojpadaaGreat
open Go.RowKit Go.Sx Go.Lp
set_option maxRecDepth 100000
end Go.Proofs.YthnojkbkojpadaaGreat

namespace Go.Proofs.YthnojkbkojpadaaGreat
open Go.RowKit Go.Sx Go.Lp
set_option maxRecDepth 100000
end Go.Proofs.YthnojkbkojpadaaGreat

namespace Go.Proofs.YthnojkbkojpadaaGreat
open Go.RowKit Go.Sx Go.Lp
set_option maxRecDepth 100000
end Go.Proofs.YthnojkbkojpadaaGreat

namespace Go.Proofs.YthnojkbkojpadaaGreat
open Go.RowKit Go.Sx Go.Lp
set_option maxRecDepth 100000
abbrev SrtC (l:List Change):Prop:=Srt keyC lexK l
end Go.Proofs.YthnojkbkojpadaaGreat

namespace Go.Proofs.YthnojkbkojpadaaGreat
open Go.RowKit Go.Sx Go.Lp
set_option maxRecDepth 100000
end Go.Proofs.YthnojkbkojpadaaGreat

namespace Go.Proofs.YthnojkbkojpadaaGreat
open Go.RowKit Go.Sx
set_option maxRecDepth 100000
set_option linter.unusedVariables false
abbrev norf_G:Type:=Unit×(List (Ky×Int))×List Change
noncomputable def norf_LP:LP 1 norf_G:=.pair (.fix 1 7 (.p 0 0)) (.pair (.mif 1 0 true false eKy eI) (.row 1 3 59 eC))
noncomputable def norf_R (cs:List Nat) (_u:Unit) (it:List (Ky×Int)) (o:List Change):Ex×norf_G:=
 bif decide (it.length=(0:Nat)) then (Ex.exit (0:Nat),(),(eKy.pair eI).lst it.length ((eKy.pair eI).els it),eC.lst o.length (eC.els o))
 else bif (it.getD ((hdC cs).headD (0:Nat) % it.length) (eKy.pair eI).dflt).snd != (0:Int) then (Ex.normal,(),(eKy.pair eI).lst (min (it.length - (1:Nat)) ((hdC cs).headD (0:Nat) % it.length)) ((eKy.pair eI).els it)++List.drop ((hdC cs).headD (0:Nat) % it.length+(1:Nat)) ((eKy.pair eI).lst ((hdC cs).headD (0:Nat) % it.length+(1:Nat)+(it.length - (1:Nat) - (hdC cs).headD (0:Nat) % it.length)) ((eKy.pair eI).els it)),eC.lst (min (o.length+(1:Nat)) o.length) (eC.els o)++List.map (fun x=>Change.mk (it.getD ((hdC cs).headD (0:Nat) % it.length) (eKy.pair eI).dflt).fst.fst (it.getD ((hdC cs).headD (0:Nat) % it.length) (eKy.pair eI).dflt).fst.snd (it.getD ((hdC cs).headD (0:Nat) % it.length) (eKy.pair eI).dflt).snd) (List.range (o.length+(1:Nat) - o.length))) else (Ex.normal,(),(eKy.pair eI).lst (min (it.length - (1:Nat)) ((hdC cs).headD (0:Nat) % it.length)) ((eKy.pair eI).els it)++List.drop ((hdC cs).headD (0:Nat) % it.length+(1:Nat)) ((eKy.pair eI).lst ((hdC cs).headD (0:Nat) % it.length+(1:Nat)+(it.length - (1:Nat) - (hdC cs).headD (0:Nat) % it.length)) ((eKy.pair eI).els it)),eC.lst o.length (eC.els o))
def norf_side (cs:List Nat) (_u:Unit) (it:List (Ky×Int)) (o:List Change):Prop:=
 (decide (it.length=(0:Nat))=true→(∀ (e:Nat),e<it.length→True)∧o.length≤o.length∧∀ (e:Nat),e<o.length→True)∧(decide (it.length=(0:Nat))=false→(((it.getD ((hdC cs).headD (0:Nat) % it.length) (eKy.pair eI).dflt).snd != (0:Int))=true→(o.length≤o.length∧True∧o.length+(1:Nat)≤maxLen∧(o.length+(1:Nat)) * Tryz.prog.types[(59:Nat)].bytes≤(140737488355328:Nat))∧(∀ (e:Nat),e<min (it.length - (1:Nat)) ((hdC cs).headD (0:Nat) % it.length)→True)∧(∀ (e:Nat),e<(hdC cs).headD (0:Nat) % it.length+(1:Nat)+(it.length - (1:Nat) - (hdC cs).headD (0:Nat) % it.length)→True)∧o.length+(1:Nat)≤o.length+(1:Nat)∧(∀ (e:Nat),e<min (o.length+(1:Nat)) o.length→True)∧∀ (e:Nat),e<o.length+(1:Nat) - o.length→True)∧(((it.getD ((hdC cs).headD (0:Nat) % it.length) (eKy.pair eI).dflt).snd != (0:Int))=false→(∀ (e:Nat),e<min (it.length - (1:Nat)) ((hdC cs).headD (0:Nat) % it.length)→True)∧(∀ (e:Nat),e<(hdC cs).headD (0:Nat) % it.length+(1:Nat)+(it.length - (1:Nat) - (hdC cs).headD (0:Nat) % it.length)→True)∧o.length≤o.length∧∀ (e:Nat),e<o.length→True))
theorem norf_one:((loopsOf Tryz.prog 73).filter fun c=>Nat.beq (lkey c) 3).length=1:=by kernel_rfl
abbrev norf_E:List Ex:=[.exit 0]
theorem norf_es (cs:List Nat) (g:norf_G):(norf_R cs g.1 g.2.1 g.2.2).1=.normal∨(norf_R cs g.1 g.2.1 g.2.2).1∈norf_E:=by
 unfold norf_R
 repeat' (first | (left;rfl) | (right;simp only[cond_true,cond_false];simp;done) | (rw[Bool.cond_eq_ite];split))
noncomputable abbrev norf_F (cs:List Nat) (g:norf_G):Ex×norf_G:=norf_R cs g.1 g.2.1 g.2.2
noncomputable abbrev norf_C (Inv:norf_G→List Prop) (m:norf_G→Nat):LCon:=loopRA norf_E (loopBody Tryz.prog 73 3) norf_LP [] 27 Inv norf_F m
theorem norf_loop (Inv:norf_G→List Prop) (m:norf_G→Nat) (hs:∀ cs g,allP (Inv g)→norf_side cs g.1 g.2.1 g.2.2) (hg:GoesA norf_F m fun g=>allP (Inv g)):∀ b∈loopsOf Tryz.prog 73,lkey b=3→LoopOk Tryz.prog b (norf_C Inv m).g:=loop_runA (Γ:=(MTab.gamz tabN23 [] [])) (Λ:=lamN23) (MTab.okz tabN23 [] []) lamN23_ok 100 73 3 27 norf_LP [] Inv norf_F (fun cs g=>norf_side cs g.1 g.2.1 g.2.2) m default norf_E norf_one (fun rd T B HL HB ds cs g=>by kernel_rfl) (fun rd T B HL HB ds cs g=>by kernel_rfl) hs hg norf_es
end Go.Proofs.YthnojkbkojpadaaGreat

namespace Go.Proofs.YthnojkbkojpadaaGreat
open Go.RowKit Go.Sx Go.Lp
set_option maxRecDepth 100000
theorem erase_lst {α:Type} (A:El α) (it:List α) (k:Nat) (h:k<it.length):A.lst (min (it.length - 1) k) (A.els it)++List.drop (k+1) (A.lst (k+1+(it.length - 1 - k)) (A.els it))=it.eraseIdx k:=by
 rw[show k+1+(it.length - 1 - k)=it.length by omega,A.lst_els,Nat.min_eq_right (by omega),lst_le A it k (by omega),List.eraseIdx_eq_take_drop_succ]
noncomputable def norf_S (e:Ky×Int) (b:List Change):Ex×List Change:=(.normal,bif e.2 != (0:Int) then b++[mkC e.1 e.2] else b)
abbrev norf_I (g:norf_G):List Prop:=[g.2.1.length+g.2.2.length≤KS]
abbrev norf_M (g:norf_G):Nat:=g.2.1.length
def norf_up (_:norf_G) (l:List (Ky×Int)) (b:List Change):norf_G:=((),l,b)
theorem norf_form (cs:List Nat) (g:norf_G) (hi:allP (norf_I g)):((g.2.1.length=0∧norf_F cs g=(.exit 0,g))∨∃ e,g.2.1[(hdC cs).headD 0 % g.2.1.length]?=some e∧norf_F cs g=((norf_S e g.2.2).1,norf_up g (g.2.1.eraseIdx ((hdC cs).headD 0 % g.2.1.length)) (norf_S e g.2.2).2))∧norf_side cs g.1 g.2.1 g.2.2:=by
 obtain ⟨⟨⟩,it,o⟩:=g
 have h:it.length+o.length≤KS:=hi _ (List.mem_cons_self ..)
 unfold KS at h
 refine ⟨?_,?_⟩
 ·show (it.length=0∧norf_R cs () it o=_)∨_
  unfold norf_R
  by_cases h0:it.length=0
  ·rw[decide_eq_true h0]
   simp only[cond_true,El.lst_els]
   exact .inl ⟨h0,trivial⟩
  ·have hk:(hdC cs).headD 0 % it.length<it.length:=Nat.mod_lt _ (by omega)
   refine .inr ⟨it[(hdC cs).headD 0 % it.length],by rw[List.getElem?_eq_getElem hk],?_⟩
   show norf_R cs () it o=_
   unfold norf_R norf_S
   rw[decide_eq_false h0]
   have hg:it.getD ((hdC cs).headD 0 % it.length) (eKy.pair eI).dflt=it[(hdC cs).headD 0 % it.length]:=by rw[List.getD_eq_getElem?_getD,List.getElem?_eq_getElem hk];rfl
   rw[hg]
   simp only[cond_false,El.lst_els]
   rw[erase_lst _ it _ hk,lst_snoc]
   cases it[(hdC cs).headD 0 % it.length].2 != (0:Int) <;> rfl
 ·show norf_side cs () it o
  unfold norf_side
  simp only[byt59]
  unfold maxLen
  by_cases h0:it.length=0
  ·rw[decide_eq_true h0]
   exact ⟨fun _=>⟨fun _ _=>trivial,Nat.le_refl _,fun _ _=>trivial⟩,fun h=>(by cases h)⟩
  ·rw[decide_eq_false h0]
   have h1:0<it.length:=by omega
   refine ⟨fun h=>(by cases h),fun _=>?_⟩
   repeat' (first | apply And.intro | intro _)
   all_goals first | trivial | omega
theorem norf_all:GoesA norf_F norf_M (fun g=>allP (norf_I g))∧∀ cs g,allP (norf_I g)→∃ s,loopFA norf_F norf_M cs g=((scanL 0 norf_S (permL g.2.1.length cs g.2.1) g.2.2).1,norf_up g s (scanL 0 norf_S (permL g.2.1.length cs g.2.1) g.2.2).2):=
 mif_loop (st:=norf_S) (rem:=fun g:norf_G=>g.2.1) (bo:=fun g=>g.2.2) (up:=norf_up) (fun _ _ _=>rfl) (fun _ _ _=>rfl) (fun _ _ _ _ _=>rfl) (fun _=>rfl) (fun _=>rfl)
  (fun g i e h he hn=>by
   have h:=h _ (List.mem_cons_self ..)
   intro p hp
   rw[List.mem_singleton.1 hp]
   have hlt:=(List.getElem?_eq_some_iff.1 he).1
   show (g.2.1.eraseIdx i).length+(bif e.2 != (0:Int) then g.2.2++[mkC e.1 e.2] else g.2.2).length≤KS
   rw[List.length_eraseIdx_of_lt hlt]
   cases e.2 != (0:Int) <;> simp <;> omega)
  fun cs g h=>(norf_form cs g h).1
theorem norf_lok:∀ b∈loopsOf Tryz.prog 73,lkey b=3→LoopOk Tryz.prog b (norf_C norf_I norf_M).g:=
 norf_loop norf_I norf_M (fun cs g hi=>(norf_form cs g hi).2) norf_all.1
noncomputable def norf_f (cs:List Nat) (g:norf_G):Ex×norf_G:=((scanL 0 norf_S (permL g.2.1.length cs g.2.1) g.2.2).1,norf_up g (loopFA norf_F norf_M cs g).2.2.1 (scanL 0 norf_S (permL g.2.1.length cs g.2.1) g.2.2).2)
noncomputable abbrev norf_C2:LCon:=loopRC norf_E (loopBody Tryz.prog 73 3) norf_LP [] 27 norf_I norf_f
theorem norf_ok2:∀ b∈loopsOf Tryz.prog 73,lkey b=3→LoopOk Tryz.prog b norf_C2.g:=fun b hb hk=>
 loop_quotC (fun _ h=>h) (fun g hi cs=>⟨cs,by
  obtain ⟨s,hs⟩:=norf_all.2 cs g hi
  unfold norf_f
  rw[hs];rfl⟩) (norf_lok b hb hk)
noncomputable def ltO2:LTab Tryz.prog:=ltN22.cons 73 3 norf_C2 norf_ok2
noncomputable abbrev lamO2:Lam:=ltO2.lam
theorem lamO2_ok:∀ f k L,lamO2 f k=some L→∀ b∈loopsOf Tryz.prog f,lkey b=k→LoopOk Tryz.prog b L.g:=ltO2.ok
end Go.Proofs.YthnojkbkojpadaaGreat

namespace Go.Proofs.YthnojkbkojpadaaGreat
open Go.RowKit Go.Sx
set_option maxRecDepth 100000
set_option linter.unusedVariables false
abbrev dMK:Dv (List (Ky×Int)):=.map true false eKy eI
abbrev aMK:DA (List (Ky×Int)):=.one dMK
noncomputable def ord_q1 (cs:List Nat) (m:List (Ky×Int)):Ex×norf_G:=
 norf_f (hdC cs) ((),(eKy.pair eI).lst m.length ((eKy.pair eI).els m),[])
noncomputable def ord_F (cs:List Nat) (m:List (Ky×Int)):List (Change):=
 eC.lst (srtBy (fun a b=>lcm_F a b) (eC.lst (ord_q1 cs m).snd.snd.snd.length (eC.els (ord_q1 cs m).snd.snd.snd))).length (eC.els (srtBy (fun a b=>lcm_F a b) (eC.lst (ord_q1 cs m).snd.snd.snd.length (eC.els (ord_q1 cs m).snd.snd.snd))))
def ord_side (cs:List Nat) (m:List (Ky×Int)):Prop:=
 (∀ (e:Nat),e<m.length→True)∧((eKy.pair eI).lst m.length ((eKy.pair eI).els m)).length+(0:Nat)≤KS∧(ord_q1 cs m).snd.snd.snd.length=(ord_q1 cs m).snd.snd.snd.length∧(∀ (e:Nat),e<(ord_q1 cs m).snd.snd.snd.length→True)∧(eC.lst (ord_q1 cs m).snd.snd.snd.length (eC.els (ord_q1 cs m).snd.snd.snd)).length<(4611686018427387904:Nat)∧Anti (fun a b=>lcm_F a b) (eC.lst (ord_q1 cs m).snd.snd.snd.length (eC.els (ord_q1 cs m).snd.snd.snd))∧(ord_q1 cs m).snd.snd.snd.length=(srtBy (fun a b=>lcm_F a b) (eC.lst (ord_q1 cs m).snd.snd.snd.length (eC.els (ord_q1 cs m).snd.snd.snd))).length∧∀ (e:Nat),e<(srtBy (fun a b=>lcm_F a b) (eC.lst (ord_q1 cs m).snd.snd.snd.length (eC.els (ord_q1 cs m).snd.snd.snd))).length→True
theorem ord_okA (fn:DA.T aMK→List (Change)) (pre:DA.T aMK→List Prop) (h:∀ cs g,DA.bd aMK g→(∀ p∈pre g,p)→ord_side cs g∧ord_F cs g=fn g):FnRow Tryz.prog 73 59 eC aMK fn pre:=row_of_sideA (Γ:=(MTab.gamz tabN23 [] [])) (Λ:=lamO2) (MTab.okz tabN23 [] []) lamO2_ok 100 default (fun cs g=>ord_side cs g) (fun cs g=>ord_F cs g) (fun cs g=>by kernel_rfl) (fun cs g=>by kernel_rfl) h
end Go.Proofs.YthnojkbkojpadaaGreat

namespace Go.Proofs.YthnojkbkojpadaaGreat
open Go.RowKit Go.Sx Go.Lp Go.Sort
set_option maxRecDepth 100000
def mkE (e:Ky×Int):Change:=mkC e.1 e.2
def outF (m:List (Ky×Int)):List Change:=(m.filter fun e=>e.2 != (0:Int)).map mkE
noncomputable def ordC (m:List (Ky×Int)):List Change:=totC (outF m)
def KdM (m:List (Ky×Int)):Prop:=m.Pairwise fun a b=>a.1≠b.1
theorem outF_kd {m:List (Ky×Int)} (h:KdM m):(outF m).Pairwise fun a b=>keyC a≠keyC b:=List.pairwise_map.2 ((List.Pairwise.sublist List.filter_sublist h).imp fun {a b} hab=>hab)
theorem tot_kd {xs:List Change} (h:xs.Pairwise fun a b=>keyC a≠keyC b) (y:Change):y∈totC xs↔y∈xs:=by
 rw[totC_mem]
 constructor
 ·rintro ⟨⟨x,hx,hk⟩,hn⟩
  have:=sumK_one keyC Change.n h hx
  have he:x=y:=extC x y hk (by rw[hn,← hk];exact this.symm)
  rw[← he];exact hx
 ·intro hy
  exact ⟨⟨y,hy,rfl⟩,(sumK_one keyC Change.n h hy).symm⟩
theorem srt_kd {xs:List Change} (h:xs.Pairwise fun a b=>keyC a≠keyC b):SrtC (srtBy cfC xs):=by
 have hs:=srtBy_sorted cfC swoC xs
 have hd:(srtBy cfC xs).Pairwise fun a b=>keyC a≠keyC b:=(List.Perm.pairwise_iff (fun h=>Ne.symm h) (srtBy_perm cfC _)).2 h
 exact (hs.and hd).imp fun {a b} hab=>Classical.byContradiction fun hn=>by
  have h3:=hab.1
  simp only[cfC,lcm_lex] at h3
  exact h3 (toK.lt_or hab.2 hn)
theorem srt_tot {xs ys:List Change} (h:ys.Pairwise fun a b=>keyC a≠keyC b) (hp:xs.Perm ys):srtBy cfC xs=totC ys:=by
 have hx:xs.Pairwise fun a b=>keyC a≠keyC b:=(List.Perm.pairwise_iff (fun h=>Ne.symm h) hp).2 h
 refine srt_unique keyC Change.n lexK toK extC (srt_kd hx) (totC_srt ys) fun y=>?_
 rw[tot_kd h,(srtBy_perm cfC xs).mem_iff,hp.mem_iff]
theorem anti_kd {xs:List Change} (h:xs.Pairwise fun a b=>keyC a≠keyC b):Anti cfC xs:=fun x hx y hy k1 k2=>by
 simp only[cfC,lcm_lex] at k1 k2
 have hk:keyC x=keyC y:=toK.anti _ _ k1 k2
 have h1:=sumK_one keyC Change.n h hx
 have h2:=sumK_one keyC Change.n h hy
 rw[hk] at h1
 exact extC _ _ hk (h1.symm.trans h2)
theorem norf_scan:∀ (l:List (Ky×Int)) (b:List Change),scanL 0 norf_S l b=(.exit 0,b++outF l)
 | [],b=>by simp[scanL,outF]
 | e :: l,b=>by
  show scanL 0 norf_S l (bif e.2 != (0:Int) then b++[mkC e.1 e.2] else b)=_
  rw[norf_scan l]
  unfold outF
  rw[List.filter_cons]
  cases h:e.2 != (0:Int) with
  | true=>simp[mkE]
  | false=>simp
theorem outF_len (m:List (Ky×Int)):(outF m).length≤m.length:=by
 unfold outF
 rw[List.length_map]
 exact List.length_filter_le _ _
theorem ord_eq (cs:List Nat) (m:List (Ky×Int)) (h1:m.length≤KS) (h2:KdM m):ord_side cs m∧ord_F cs m=ordC m:=by
 have hP:(permL m.length (hdC cs) m).Perm m:=permL_perm _ _ _ rfl
 have hq:(ord_q1 cs m).2.2.2=outF (permL m.length (hdC cs) m):=by
  unfold ord_q1 norf_f norf_up
  simp only[El.lst_els]
  rw[norf_scan]
  rfl
 have hp2:(outF (permL m.length (hdC cs) m)).Perm (outF m):=(hP.filter _).map _
 have hkd:=outF_kd h2
 have hkd2:(outF (permL m.length (hdC cs) m)).Pairwise fun a b=>keyC a≠keyC b:=(List.Perm.pairwise_iff (fun h=>Ne.symm h) hp2).2 hkd
 have hl:=outF_len m
 have hl2:=hp2.length_eq
 unfold ord_side ord_F
 rw[hq]
 generalize outF (permL m.length (hdC cs) m)=o at hp2 hkd2 hl2
 simp only[El.lst_els]
 rw[show (fun a b=>lcm_F a b)=cfC from rfl]
 unfold KS at h1
 refine ⟨⟨fun _ _=>trivial,by unfold KS;omega,trivial,fun _ _=>trivial,by omega,anti_kd hkd2,((srtBy_perm cfC o).length_eq).symm,fun _ _=>trivial⟩,?_⟩
 exact srt_tot hkd hp2
theorem ord_c:FnRow Tryz.prog 73 59 eC aMK ordC (fun m=>[m.length≤KS,KdM m]):=
 ord_okA ordC _ fun cs m _ hp=>ord_eq cs m (hp _ (List.mem_cons_self ..)) (hp _ (List.mem_cons_of_mem _ (List.mem_cons_self ..)))
theorem pusC (r:Change):Pus (eC.cells r):=pus_cons (pu_v _) (pus_cons (pu_v _) (pus_cons (pu_v _) (pus_cons (pu_v _) (pus_append (pus4 _ _ _ _) (pus_cons (pu_v _) pus_nil)))))
end Go.Proofs.YthnojkbkojpadaaGreat

namespace Go.Proofs.YthnojkbkojpadaaGreat
open Go.RowKit Go.Sx Go.Lp
set_option maxRecDepth 100000
abbrev fr1_P (g:List Path×Place×List Change):Prop:=g=([pa0],p0,[ch0])∨g=([pa0],p0,[])
def fr1_f (g:List Path×Place×List Change):List T×Int:=(bif g.2.2.isEmpty then [] else [t3],0)
theorem fr1_c:FnPure Tryz.prog 22 aLPcD dLTE fr1_f (fun g=>[fr1_P g]):=pure_of_tree (MTab.okz tabV24 [(4000000,0)] []) noΛ_ok 100 fun g _ hp=>by
 rcases hp _ (List.mem_cons_self ..) with rfl | rfl
 ·exact fr1h
 ·exact fr0h
abbrev dp1_f (_:List Path):MPd0:=([(p0,0,0)],1)
theorem dp1_c:FnT Tryz.prog 88 TA.nil aLPoC (trM true false eP eI) (fun _ l=>((),dp1_f l)) (fun _ l=>[l=[pa0]]):=T_of_tree (MTab.okz tabV24 [(4000000,0)] []) noΛ_ok 100 fun u g _ hp=>by
 have e:g=[pa0]:=hp _ (List.mem_cons_self ..)
 subst e
 have h:tDp.Holds (·=((),dp1_f [pa0])):=dp_h
 exact h
theorem pusPe0 (a:MpE Place Int):Pus ((eP.ent eI).cells a):=pus_cons (pu_v _) (pus_cons (pu_v _) (pus_cons (pu_v _) (pus_cons (pu_v _) pus_nil)))
noncomputable def tabV27:MTab Tryz.prog:=tabV24.consM 88 (bconMapV true false eP eI aLPoC dp1_f (fun l=>[l=[pa0]])) (conMapV_ok pusPe0 dp1_c)
abbrev taL1:TA LdK:=.one 89 cLd0
abbrev lk0:LdK:=([pa0],[(p0,0)],[],0)
abbrev lk1:LdK:=([pa0],[(p0,0)],[((p0,t3),1,0)],1)
abbrev lk2:LdK:=([pa0],[(p0,0)],[],1)
abbrev aLC1:DA (List Change):=.one (.listB eC)
abbrev aP1:DA Place:=.one dP
noncomputable abbrev tNw2:Tr (Unit×(Option LdK×Int)):=tTree Tryz.prog (MTab.gamz tabV27 [(4000000,0)] []) noΛ 100 34 TA.nil trN0 () (DA.enc aLPoC [pa0])
noncomputable def tabV27n:MTab Tryz.prog:=(MTab.of PTab.nil).cons 29 (pconR aLC1 dLCE netC (fun xs=>[xs.length≤KS])) (conR_ok netf_ok)
noncomputable abbrev tTk1:Tr (LdK×Int):=tTree Tryz.prog (MTab.gamz tabV27n [(4000000,0)] []) noΛ 100 35 taL1 (TR.pure dI) lk0 (DA.enc aLC1 [ch0])
noncomputable abbrev tTk2:Tr (LdK×Int):=tTree Tryz.prog (MTab.gamz tabV27n [(4000000,0)] []) noΛ 100 35 taL1 (TR.pure dI) lk1 (DA.enc aLC1 [ch1])
noncomputable def tabV27f:MTab Tryz.prog:=((MTab.of PTab.nil).consM 73 (bconRowV 59 eC aMK ordC (fun m=>[m.length≤KS,KdM m])) (conRowV_ok pusC ord_c)).consM 22 (fconR aLPcD dLTE fr1_f (fun g=>[fr1_P g])) (fconR_ok fr1_c)
noncomputable abbrev tFm1:Tr (LdK×(List T×Int)):=tTree Tryz.prog (MTab.gamz tabV27f [(4000000,0)] []) noΛ 100 36 taL1 (TR.pure dLTE) lk1 (DA.enc aP1 p0)
noncomputable abbrev tFm2:Tr (LdK×(List T×Int)):=tTree Tryz.prog (MTab.gamz tabV27f [(4000000,0)] []) noΛ 100 36 taL1 (TR.pure dLTE) lk2 (DA.enc aP1 p0)
end Go.Proofs.YthnojkbkojpadaaGreat
