/- Reach: tables: loops. Printed by treegen.py. -/
import Derived.Test.YthnojkbkojpadaaGreatZG09307a07
import Derived.Test.YthnojkbkojpadaaGreatZG0687ac95
import Derived.Test.YthnojkbkojpadaaGreatZG07857b98
import Derived.Test.YthnojkbkojpadaaGreatZG0800afda
set_option maxRecDepth 100000
set_option linter.unusedVariables false
set_option linter.unusedSimpArgs false
set_option linter.constructorNameAsVariable false
set_option linter.all false

namespace Go.Proofs.YthnojkbkojpadaaGreat
noncomputable section
open Go.RowKit Go.Sx
set_option linter.unusedVariables false
abbrev dMP:Dv (List (Place×Int)):=.map true false eP eI
abbrev dPaM:DA (Path×List (Place×Int)):=.cons dPa (.one dMP)
abbrev eEn:El (Place×Place):=.pair eP eP
abbrev En:Type:=Place×Place
abbrev cTb:CT ((List (En×List S×Int)×Nat)×List Place):=.pair (.map true false eEn eLS) (.row 24 eP)
abbrev MPm:Type:=List (Place×Int×Int)×Nat
abbrev MPz:Type:=List (Place×Int)
abbrev TBt:Type:=(List (En×List S×Int)×Nat)×List Place
def qdj (xs:List Path) (n:Int) (i:Int) (_u:Unit) (mp:MPm) (z:MPz) (r:Bool):Nat:=
 kfind (fun e=>(xs.getD i.toNat ePa.dflt).fr.node==(mp.fst.getD e (eP.ent eI).dflt).fst.node&&(xs.getD i.toNat ePa.dflt).fr.port==(mp.fst.getD e (eP.ent eI).dflt).fst.port) mp.fst.length (0:Nat)
abbrev dph_G:Type:=List Path×Int×Int×Unit×MPm×MPz×Bool
def qy9:LP 1 dph_G:=.pair (.slot 1 8 dLP) (.pair (.slot 1 9 dI) (.pair (.slot 1 10 dI) (.pair (.fix 1 4 (.mp 0)) (.pair (.mapO 1 0 true false eP eI) (.pair (.slot 1 2 dMP) (.slot 1 3 dBool))))))
def dph_R (xs:List Path) (n:Int) (i:Int) (_u:Unit) (mp:MPm) (z:MPz) (r:Bool):Ex×dph_G:=
 bif decide (i<n) then bif !conj ([(xs.getD i.toNat ePa.dflt).fr.node==(xs.getD i.toNat ePa.dflt).to.node]++([(xs.getD i.toNat ePa.dflt).fr.port==(xs.getD i.toNat ePa.dflt).to.port]++[])) then (Ex.normal,ePa.ag xs,n,IntKind.i64.wrap (i+(1:Int)),(),((eP.ent eI).ag mp.fst,mp.snd),(eP.pair eI).ag z,r) else bif (↑(xs.getD i.toNat ePa.dflt).ss.length:Int)==(0:Int) then (Ex.ret,ePa.ag xs,n,i,(),((eP.ent eI).ag mp.fst,mp.snd),[],false) else (Ex.normal,ePa.ag xs,n,IntKind.i64.wrap (i+(1:Int)),(),(((eP.ent eI).lst (bif decide ((qdj xs n i _u mp z r)<mp.fst.length) then mp.fst.length else mp.fst.length+(1:Nat)) ((eP.ent eI).els mp.fst)).set (qdj xs n i _u mp z r) ((xs.getD i.toNat ePa.dflt).fr,((xs.getD i.toNat ePa.dflt).ss.getD (0:Nat) eS.dflt).f,bif decide ((qdj xs n i _u mp z r)<mp.fst.length) then (mp.fst.getD (qdj xs n i _u mp z r) (eP.ent eI).dflt).snd.snd else (↑mp.snd:Int)),bif decide ((qdj xs n i _u mp z r)<mp.fst.length) then mp.snd else mp.snd+(1:Nat)),(eP.pair eI).ag z,r)
 else (Ex.exit (0:Nat),ePa.ag xs,n,i,(),((eP.ent eI).ag mp.fst,mp.snd),(eP.pair eI).ag z,r)
def qiu (xs:List Path) (n:Int) (i:Int) (_u:Unit) (mp:MPm) (z:MPz) (r:Bool):Prop:=
 (decide (i<n)=true→((0:Int)≤i∧i<(↑xs.length:Int))∧((!conj ([(xs.getD i.toNat ePa.dflt).fr.node==(xs.getD i.toNat ePa.dflt).to.node]++([(xs.getD i.toNat ePa.dflt).fr.port==(xs.getD i.toNat ePa.dflt).to.port]++[])))=true→ePa.okL xs∧(∀ (e:Nat),e<mp.fst.length→True)∧(eP.pair eI).okL z)∧((!conj ([(xs.getD i.toNat ePa.dflt).fr.node==(xs.getD i.toNat ePa.dflt).to.node]++([(xs.getD i.toNat ePa.dflt).fr.port==(xs.getD i.toNat ePa.dflt).to.port]++[])))=false→(((↑(xs.getD i.toNat ePa.dflt).ss.length:Int)==(0:Int))=true→ePa.okL xs∧∀ (e:Nat),e<mp.fst.length→True)∧(((↑(xs.getD i.toNat ePa.dflt).ss.length:Int)==(0:Int))=false→((0:Int)≤(0:Int)∧(0:Int)<(↑(xs.getD i.toNat ePa.dflt).ss.length:Int))∧(∀ (e:Nat),e<mp.fst.length→(4:Nat)=(4:Nat))∧(∀ (e:Nat),e<mp.fst.length→True)∧ePa.okL xs∧True∧(∀ (e:Nat),(e<bif decide ((qdj xs n i _u mp z r)<mp.fst.length) then mp.fst.length else mp.fst.length+(1:Nat))→True)∧(eP.pair eI).okL z)))∧(decide (i<n)=false→ePa.okL xs∧(∀ (e:Nat),e<mp.fst.length→True)∧(eP.pair eI).okL z)
theorem dph_one:((q00 Tryz.prog 59).filter fun c=>Nat.beq (lkey c) 3).length=1:=by kernel_rfl
abbrev q5w:Type:=List Path×Int
abbrev qg6:Type:=Unit×MPm×MPz×Bool
def dph_f (g:dph_G):Int×q5w×qg6:=(g.2.2.1,(g.1,g.2.1),(g.2.2.2.1,g.2.2.2.2.1,g.2.2.2.2.2.1,g.2.2.2.2.2.2))
def dph_g (d:Int×q5w×qg6):dph_G:=(d.2.1.1,d.2.1.2,d.1,d.2.2.1,d.2.2.2.1,d.2.2.2.2.1,d.2.2.2.2.2)
abbrev qg5 (g:dph_G):Ex×dph_G:=dph_R g.1 g.2.1 g.2.2.1 g.2.2.2.1 g.2.2.2.2.1 g.2.2.2.2.2.1 g.2.2.2.2.2.2
abbrev qy7 (g:dph_G):Prop:=qiu g.1 g.2.1 g.2.2.1 g.2.2.2.1 g.2.2.2.2.1 g.2.2.2.2.2.1 g.2.2.2.2.2.2
theorem dph_es (g:dph_G):(qg5 g).1=.normal∨(qg5 g).1∈([.ret,.exit 0]:List Ex):=by
 unfold qg5 dph_R
 repeat' (first | (left;rfl) | (right;simp only[cond_true,cond_false];simp;done) | (rw[Bool.cond_eq_ite];split))
abbrev dph_C (Inv:dph_G→List Prop) (m:dph_G→Nat):LCon:=loopR [.ret,.exit 0] (loopBody Tryz.prog 59 3) qy9 [] 36 Inv qg5 m
theorem qur (Inv:dph_G→List Prop) (m:dph_G→Nat) (hs:∀ g,allP (Inv g)→qy7 g) (hg:Goes qg5 m fun g=>allP (Inv g)):∀ b∈q00 Tryz.prog 59,lkey b=3→q02 Tryz.prog b (dph_C Inv m).g:=q0g (Γ:=(PTab.gamz tabM3 [] [])) (Λ:=noΛ) (PTab.okz tabM3 [] []) q0o 100 59 3 36 qy9 [] Inv qg5 qy7 m default [.ret,.exit 0] dph_one (fun rd T B HL HB ds g=>by kernel_rfl) (fun rd T B HL HB ds g=>by kernel_rfl) hs hg dph_es
abbrev pth_G:Type:=List S×Int×Int×Int×Int×Bool
def qwi:LP 1 pth_G:=.pair (.slot 1 46 dLS) (.pair (.slot 1 47 dI) (.pair (.slot 1 48 dI) (.pair (.slot 1 5 dI) (.pair (.slot 1 7 dI) (.slot 1 4 dBool)))))
def pth_R (xs:List S) (n:Int) (i:Int) (a:Int) (b:Int) (r:Bool):Ex×pth_G:=
 bif decide (i<n) then bif q5p (xs.getD i.toNat eS.dflt) != (0:Int)||((xs.getD i.toNat eS.dflt).f != a||q2w (xs.getD i.toNat eS.dflt) != b) then (Ex.ret,eS.ag xs,n,i,a,b,false) else (Ex.normal,eS.ag xs,n,IntKind.i64.wrap (i+(1:Int)),a,b,r)
 else (Ex.exit (0:Nat),eS.ag xs,n,i,a,b,r)
def qhi (xs:List S) (n:Int) (i:Int) (a:Int) (b:Int) (r:Bool):Prop:=
 (decide (i<n)=true→((0:Int)≤i∧i<(↑xs.length:Int))∧((q5p (xs.getD i.toNat eS.dflt) != (0:Int)||((xs.getD i.toNat eS.dflt).f != a||q2w (xs.getD i.toNat eS.dflt) != b))=true→eS.okL xs)∧((q5p (xs.getD i.toNat eS.dflt) != (0:Int)||((xs.getD i.toNat eS.dflt).f != a||q2w (xs.getD i.toNat eS.dflt) != b))=false→eS.okL xs))∧(decide (i<n)=false→eS.okL xs)
theorem z0e:((q00 Tryz.prog 80).filter fun c=>Nat.beq (lkey c) 6).length=1:=by kernel_rfl
abbrev q3t:Type:=List S×Int×Int×Int
abbrev qcf:Type:=Bool
def pth_f (g:pth_G):Int×q3t×qcf:=(g.2.2.1,(g.1,g.2.1,g.2.2.2.1,g.2.2.2.2.1),g.2.2.2.2.2)
def pth_g (d:Int×q3t×qcf):pth_G:=(d.2.1.1,d.2.1.2.1,d.1,d.2.1.2.2.1,d.2.1.2.2.2,d.2.2)
abbrev qeu (g:pth_G):Ex×pth_G:=pth_R g.1 g.2.1 g.2.2.1 g.2.2.2.1 g.2.2.2.2.1 g.2.2.2.2.2
abbrev qwf (g:pth_G):Prop:=qhi g.1 g.2.1 g.2.2.1 g.2.2.2.1 g.2.2.2.2.1 g.2.2.2.2.2
theorem pth_es (g:pth_G):(qeu g).1=.normal∨(qeu g).1∈([.ret,.exit 0]:List Ex):=by
 unfold qeu pth_R
 repeat' (first | (left;rfl) | (right;simp only[cond_true,cond_false];simp;done) | (rw[Bool.cond_eq_ite];split))
abbrev pth_C (Inv:pth_G→List Prop) (m:pth_G→Nat):LCon:=loopR [.ret,.exit 0] (loopBody Tryz.prog 80 6) qwi [] 96 Inv qeu m
theorem qtr (Inv:pth_G→List Prop) (m:pth_G→Nat) (hs:∀ g,allP (Inv g)→qwf g) (hg:Goes qeu m fun g=>allP (Inv g)):∀ b∈q00 Tryz.prog 80,lkey b=6→q02 Tryz.prog b (pth_C Inv m).g:=q0g (Γ:=(PTab.gamz tabM3 [] [])) (Λ:=noΛ) (PTab.okz tabM3 [] []) q0o 100 80 6 96 qwi [] Inv qeu qwf m default [.ret,.exit 0] z0e (fun rd T B HL HB ds g=>by kernel_rfl) (fun rd T B HL HB ds g=>by kernel_rfl) hs hg pth_es
def q1h (xs:List Path) (n:Int) (i:Int) (_u:Unit) (tb:TBt):Nat:=
 kfind (fun e=>(xs.getD i.toNat ePa.dflt).fr.node==(tb.fst.fst.getD e (eEn.ent eLS).dflt).fst.fst.node&&((xs.getD i.toNat ePa.dflt).fr.port==(tb.fst.fst.getD e (eEn.ent eLS).dflt).fst.fst.port&&((xs.getD i.toNat ePa.dflt).to.node==(tb.fst.fst.getD e (eEn.ent eLS).dflt).fst.snd.node&&(xs.getD i.toNat ePa.dflt).to.port==(tb.fst.fst.getD e (eEn.ent eLS).dflt).fst.snd.port))) tb.fst.fst.length (0:Nat)
abbrev tbo_G:Type:=List Path×Int×Int×Unit×TBt
def qvf:LP 2 tbo_G:=.pair (.slot 2 9 dLP) (.pair (.slot 2 10 dI) (.pair (.slot 2 11 dI) (.pair (.fix 2 3 (.p 1 0)) (.ctO 2 1 113 cTb))))
def tbo_R (xs:List Path) (n:Int) (i:Int) (_u:Unit) (tb:TBt):Ex×tbo_G:=
 bif decide (i<n) then bif conj ([(xs.getD i.toNat ePa.dflt).fr.node==(xs.getD i.toNat ePa.dflt).to.node]++([(xs.getD i.toNat ePa.dflt).fr.port==(xs.getD i.toNat ePa.dflt).to.port]++[])) then (Ex.normal,ePa.ag xs,n,IntKind.i64.wrap (i+(1:Int)),(),(((eEn.ent eLS).lst (bif decide ((q1h xs n i _u tb)<tb.fst.fst.length) then tb.fst.fst.length else tb.fst.fst.length+(1:Nat)) ((eEn.ent eLS).els tb.fst.fst)).set (q1h xs n i _u tb) (((xs.getD i.toNat ePa.dflt).fr,(xs.getD i.toNat ePa.dflt).to),eS.ag (xs.getD i.toNat ePa.dflt).ss,bif decide ((q1h xs n i _u tb)<tb.fst.fst.length) then (tb.fst.fst.getD (q1h xs n i _u tb) (eEn.ent eLS).dflt).snd.snd else (↑tb.fst.snd:Int)),bif decide ((q1h xs n i _u tb)<tb.fst.fst.length) then tb.fst.snd else tb.fst.snd+(1:Nat)),eP.lst (min (tb.snd.length+(1:Nat)) tb.snd.length) (eP.els tb.snd)++List.map (fun x=>(xs.getD i.toNat ePa.dflt).fr) (List.range (tb.snd.length+(1:Nat) - tb.snd.length))) else (Ex.normal,ePa.ag xs,n,IntKind.i64.wrap (i+(1:Int)),(),(((eEn.ent eLS).lst (bif decide ((q1h xs n i _u tb)<tb.fst.fst.length) then tb.fst.fst.length else tb.fst.fst.length+(1:Nat)) ((eEn.ent eLS).els tb.fst.fst)).set (q1h xs n i _u tb) (((xs.getD i.toNat ePa.dflt).fr,(xs.getD i.toNat ePa.dflt).to),eS.ag (xs.getD i.toNat ePa.dflt).ss,bif decide ((q1h xs n i _u tb)<tb.fst.fst.length) then (tb.fst.fst.getD (q1h xs n i _u tb) (eEn.ent eLS).dflt).snd.snd else (↑tb.fst.snd:Int)),bif decide ((q1h xs n i _u tb)<tb.fst.fst.length) then tb.fst.snd else tb.fst.snd+(1:Nat)),eP.ag tb.snd)
 else (Ex.exit (0:Nat),ePa.ag xs,n,i,(),((eEn.ent eLS).ag tb.fst.fst,tb.fst.snd),eP.ag tb.snd)
def qh3 (xs:List Path) (n:Int) (i:Int) (_u:Unit) (tb:TBt):Prop:=
 (decide (i<n)=true→((0:Int)≤i∧i<(↑xs.length:Int))∧(∀ (e:Nat),e<tb.fst.fst.length→(6:Nat)=(6:Nat))∧(∀ (e:Nat),e<tb.fst.fst.length→True)∧(conj ([(xs.getD i.toNat ePa.dflt).fr.node==(xs.getD i.toNat ePa.dflt).to.node]++([(xs.getD i.toNat ePa.dflt).fr.port==(xs.getD i.toNat ePa.dflt).to.port]++[]))=true→∀ (cs:List Nat),(cs.isEmpty=true→(tb.snd.length≤tb.snd.length∧True∧tb.snd.length+(1:Nat)≤maxLen∧(tb.snd.length+(1:Nat)) * Tryz.prog.types[(24:Nat)].bytes≤(140737488355328:Nat))∧ePa.okL xs∧(∀ (p:Prop),p∈[]++[]++([]++[])++([eS.okL (xs.getD i.toNat ePa.dflt).ss]++[])→p)∧(∀ (e:Nat),(e<bif decide ((q1h xs n i _u tb)<tb.fst.fst.length) then tb.fst.fst.length else tb.fst.fst.length+(1:Nat))→∀ (p:Prop),p∈[]++[]++([]++[])++([eS.okL (tb.fst.fst.getD e (eEn.ent eLS).dflt).snd.fst]++[])→p)∧tb.snd.length+(1:Nat)≤tb.snd.length+(1:Nat)∧(∀ (e:Nat),e<min (tb.snd.length+(1:Nat)) tb.snd.length→True)∧(∀ (e:Nat),e<tb.snd.length+(1:Nat) - tb.snd.length→True)∧∀ (d:Ex×List Path×Int×Int×Unit×(List (En×List S×Int)×Nat)×List Place),(Ex.normal,ePa.ag xs,n,IntKind.i64.wrap (i+(1:Int)),(),(((eEn.ent eLS).lst (bif decide ((q1h xs n i _u tb)<tb.fst.fst.length) then tb.fst.fst.length else tb.fst.fst.length+(1:Nat)) ((eEn.ent eLS).els tb.fst.fst)).set (q1h xs n i _u tb) (((xs.getD i.toNat ePa.dflt).fr,(xs.getD i.toNat ePa.dflt).to),eS.ag (xs.getD i.toNat ePa.dflt).ss,bif decide ((q1h xs n i _u tb)<tb.fst.fst.length) then (tb.fst.fst.getD (q1h xs n i _u tb) (eEn.ent eLS).dflt).snd.snd else (↑tb.fst.snd:Int)),bif decide ((q1h xs n i _u tb)<tb.fst.fst.length) then tb.fst.snd else tb.fst.snd+(1:Nat)),eP.lst (min (tb.snd.length+(1:Nat)) tb.snd.length) (eP.els tb.snd)++List.map (fun x=>(xs.getD i.toNat ePa.dflt).fr) (List.range (tb.snd.length+(1:Nat) - tb.snd.length)))=(Ex.normal,ePa.ag xs,n,IntKind.i64.wrap (i+(1:Int)),(),(((eEn.ent eLS).lst (bif decide ((q1h xs n i _u tb)<tb.fst.fst.length) then tb.fst.fst.length else tb.fst.fst.length+(1:Nat)) ((eEn.ent eLS).els tb.fst.fst)).set (q1h xs n i _u tb) (((xs.getD i.toNat ePa.dflt).fr,(xs.getD i.toNat ePa.dflt).to),eS.ag (xs.getD i.toNat ePa.dflt).ss,bif decide ((q1h xs n i _u tb)<tb.fst.fst.length) then (tb.fst.fst.getD (q1h xs n i _u tb) (eEn.ent eLS).dflt).snd.snd else (↑tb.fst.snd:Int)),bif decide ((q1h xs n i _u tb)<tb.fst.fst.length) then tb.fst.snd else tb.fst.snd+(1:Nat)),eP.lst (min (tb.snd.length+(1:Nat)) tb.snd.length) (eP.els tb.snd)++List.map (fun x=>(xs.getD i.toNat ePa.dflt).fr) (List.range (tb.snd.length+(1:Nat) - tb.snd.length))))∧(cs.isEmpty=false→(tb.snd.length≤tb.snd.length∧True∧tb.snd.length+(1:Nat)≤maxLen∧(tb.snd.length+(1:Nat)) * Tryz.prog.types[(24:Nat)].bytes≤(140737488355328:Nat))∧ePa.okL xs∧(∀ (p:Prop),p∈[]++[]++([]++[])++([eS.okL (xs.getD i.toNat ePa.dflt).ss]++[])→p)∧(∀ (e:Nat),(e<bif decide ((q1h xs n i _u tb)<tb.fst.fst.length) then tb.fst.fst.length else tb.fst.fst.length+(1:Nat))→∀ (p:Prop),p∈[]++[]++([]++[])++([eS.okL (tb.fst.fst.getD e (eEn.ent eLS).dflt).snd.fst]++[])→p)∧tb.snd.length+(1:Nat)≤tb.snd.length+(1:Nat)∧(∀ (e:Nat),e<min (tb.snd.length+(1:Nat)) tb.snd.length→True)∧(∀ (e:Nat),e<tb.snd.length+(1:Nat) - tb.snd.length→True)∧∀ (d:Ex×List Path×Int×Int×Unit×(List (En×List S×Int)×Nat)×List Place),(Ex.normal,ePa.ag xs,n,IntKind.i64.wrap (i+(1:Int)),(),(((eEn.ent eLS).lst (bif decide ((q1h xs n i _u tb)<tb.fst.fst.length) then tb.fst.fst.length else tb.fst.fst.length+(1:Nat)) ((eEn.ent eLS).els tb.fst.fst)).set (q1h xs n i _u tb) (((xs.getD i.toNat ePa.dflt).fr,(xs.getD i.toNat ePa.dflt).to),eS.ag (xs.getD i.toNat ePa.dflt).ss,bif decide ((q1h xs n i _u tb)<tb.fst.fst.length) then (tb.fst.fst.getD (q1h xs n i _u tb) (eEn.ent eLS).dflt).snd.snd else (↑tb.fst.snd:Int)),bif decide ((q1h xs n i _u tb)<tb.fst.fst.length) then tb.fst.snd else tb.fst.snd+(1:Nat)),eP.lst (min (tb.snd.length+(1:Nat)) tb.snd.length) (eP.els tb.snd)++List.map (fun x=>(xs.getD i.toNat ePa.dflt).fr) (List.range (tb.snd.length+(1:Nat) - tb.snd.length)))=(Ex.normal,ePa.ag xs,n,IntKind.i64.wrap (i+(1:Int)),(),(((eEn.ent eLS).lst (bif decide ((q1h xs n i _u tb)<tb.fst.fst.length) then tb.fst.fst.length else tb.fst.fst.length+(1:Nat)) ((eEn.ent eLS).els tb.fst.fst)).set (q1h xs n i _u tb) (((xs.getD i.toNat ePa.dflt).fr,(xs.getD i.toNat ePa.dflt).to),eS.ag (xs.getD i.toNat ePa.dflt).ss,bif decide ((q1h xs n i _u tb)<tb.fst.fst.length) then (tb.fst.fst.getD (q1h xs n i _u tb) (eEn.ent eLS).dflt).snd.snd else (↑tb.fst.snd:Int)),bif decide ((q1h xs n i _u tb)<tb.fst.fst.length) then tb.fst.snd else tb.fst.snd+(1:Nat)),eP.lst (min (tb.snd.length+(1:Nat)) tb.snd.length) (eP.els tb.snd)++List.map (fun x=>(xs.getD i.toNat ePa.dflt).fr) (List.range (tb.snd.length+(1:Nat) - tb.snd.length)))))∧(conj ([(xs.getD i.toNat ePa.dflt).fr.node==(xs.getD i.toNat ePa.dflt).to.node]++([(xs.getD i.toNat ePa.dflt).fr.port==(xs.getD i.toNat ePa.dflt).to.port]++[]))=false→ePa.okL xs∧(∀ (p:Prop),p∈[]++[]++([]++[])++([eS.okL (xs.getD i.toNat ePa.dflt).ss]++[])→p)∧(∀ (e:Nat),(e<bif decide ((q1h xs n i _u tb)<tb.fst.fst.length) then tb.fst.fst.length else tb.fst.fst.length+(1:Nat))→∀ (p:Prop),p∈[]++[]++([]++[])++([eS.okL (tb.fst.fst.getD e (eEn.ent eLS).dflt).snd.fst]++[])→p)∧tb.snd.length≤tb.snd.length∧∀ (e:Nat),e<tb.snd.length→True))∧(decide (i<n)=false→ePa.okL xs∧(∀ (e:Nat),e<tb.fst.fst.length→∀ (p:Prop),p∈[]++[]++([]++[])++([eS.okL (tb.fst.fst.getD e (eEn.ent eLS).dflt).snd.fst]++[])→p)∧tb.snd.length≤tb.snd.length∧∀ (e:Nat),e<tb.snd.length→True)
theorem qze:((q00 Tryz.prog 57).filter fun c=>Nat.beq (lkey c) 3).length=1:=by kernel_rfl
abbrev q60:Type:=List Path×Int
abbrev qbx:Type:=Unit×TBt
def tbo_f (g:tbo_G):Int×q60×qbx:=(g.2.2.1,(g.1,g.2.1),(g.2.2.2.1,g.2.2.2.2))
def tbo_g (d:Int×q60×qbx):tbo_G:=(d.2.1.1,d.2.1.2,d.1,d.2.2.1,d.2.2.2)
abbrev qea (g:tbo_G):Ex×tbo_G:=tbo_R g.1 g.2.1 g.2.2.1 g.2.2.2.1 g.2.2.2.2
abbrev qvc (g:tbo_G):Prop:=qh3 g.1 g.2.1 g.2.2.1 g.2.2.2.1 g.2.2.2.2
theorem tbo_es (g:tbo_G):(qea g).1=.normal∨(qea g).1∈([.exit 0]:List Ex):=by
 unfold qea tbo_R
 repeat' (first | (left;rfl) | (right;simp only[cond_true,cond_false];simp;done) | (rw[Bool.cond_eq_ite];split))
abbrev tbo_C (Inv:tbo_G→List Prop) (m:tbo_G→Nat):LCon:=loopR [.exit 0] (loopBody Tryz.prog 57 3) qvf [] 44 Inv qea m
theorem qsz (Inv:tbo_G→List Prop) (m:tbo_G→Nat) (hs:∀ g,allP (Inv g)→qvc g) (hg:Goes qea m fun g=>allP (Inv g)):∀ b∈q00 Tryz.prog 57,lkey b=3→q02 Tryz.prog b (tbo_C Inv m).g:=q0g (Γ:=(PTab.gamz tabM3 [] [])) (Λ:=noΛ) (PTab.okz tabM3 [] []) q0o 100 57 3 44 qvf [] Inv qea qvc m default [.exit 0] qze (fun rd T B HL HB ds g=>by kernel_rfl) (fun rd T B HL HB ds g=>by kernel_rfl) hs hg tbo_es
abbrev plc_G:Type:=List Path×Int×Int×Unit×List Spot
def qwm:LP 1 plc_G:=.pair (.slot 1 9 dLP) (.pair (.slot 1 10 dI) (.pair (.slot 1 11 dI) (.pair (.fix 1 3 (.p 0 0)) (.objRow 1 0 32 34 eSp))))
def plc_R (xs:List Path) (n:Int) (i:Int) (_u:Unit) (o:List Spot):Ex×plc_G:=
 bif decide (i<n) then bif conj ([(xs.getD i.toNat ePa.dflt).fr.node==(xs.getD i.toNat ePa.dflt).to.node]++([(xs.getD i.toNat ePa.dflt).fr.port==(xs.getD i.toNat ePa.dflt).to.port]++[])) then (Ex.normal,ePa.ag xs,n,IntKind.i64.wrap (i+(1:Int)),(),eSp.lst (min (o.length+(1:Nat)) o.length) (eSp.els o)++List.map (fun x=>Spot.mk (xs.getD i.toNat ePa.dflt).fr ((xs.getD i.toNat ePa.dflt).ss.getD (0:Nat) eS.dflt).f) (List.range (o.length+(1:Nat) - o.length))) else (Ex.normal,ePa.ag xs,n,IntKind.i64.wrap (i+(1:Int)),(),eSp.ag o)
 else (Ex.exit (0:Nat),ePa.ag xs,n,i,(),eSp.ag o)
def qhj (xs:List Path) (n:Int) (i:Int) (_u:Unit) (o:List Spot):Prop:=
 (decide (i<n)=true→((0:Int)≤i∧i<(↑xs.length:Int))∧(conj ([(xs.getD i.toNat ePa.dflt).fr.node==(xs.getD i.toNat ePa.dflt).to.node]++([(xs.getD i.toNat ePa.dflt).fr.port==(xs.getD i.toNat ePa.dflt).to.port]++[]))=true→∀ (cs:List Nat),(cs.isEmpty=true→((0:Int)≤(0:Int)∧(0:Int)<(↑(xs.getD i.toNat ePa.dflt).ss.length:Int))∧(o.length≤o.length∧True∧o.length+(1:Nat)≤maxLen∧(o.length+(1:Nat)) * Tryz.prog.types[(34:Nat)].bytes≤(140737488355328:Nat))∧ePa.okL xs∧o.length+(1:Nat)≤o.length+(1:Nat)∧(∀ (e:Nat),e<min (o.length+(1:Nat)) o.length→True)∧(∀ (e:Nat),e<o.length+(1:Nat) - o.length→True)∧∀ (d:Ex×List Path×Int×Int×Unit×List Spot),(Ex.normal,ePa.ag xs,n,IntKind.i64.wrap (i+(1:Int)),(),eSp.lst (min (o.length+(1:Nat)) o.length) (eSp.els o)++List.map (fun x=>Spot.mk (xs.getD i.toNat ePa.dflt).fr ((xs.getD i.toNat ePa.dflt).ss.getD (0:Nat) eS.dflt).f) (List.range (o.length+(1:Nat) - o.length)))=(Ex.normal,ePa.ag xs,n,IntKind.i64.wrap (i+(1:Int)),(),eSp.lst (min (o.length+(1:Nat)) o.length) (eSp.els o)++List.map (fun x=>Spot.mk (xs.getD i.toNat ePa.dflt).fr ((xs.getD i.toNat ePa.dflt).ss.getD (0:Nat) eS.dflt).f) (List.range (o.length+(1:Nat) - o.length))))∧(cs.isEmpty=false→((0:Int)≤(0:Int)∧(0:Int)<(↑(xs.getD i.toNat ePa.dflt).ss.length:Int))∧(o.length≤o.length∧True∧o.length+(1:Nat)≤maxLen∧(o.length+(1:Nat)) * Tryz.prog.types[(34:Nat)].bytes≤(140737488355328:Nat))∧ePa.okL xs∧o.length+(1:Nat)≤o.length+(1:Nat)∧(∀ (e:Nat),e<min (o.length+(1:Nat)) o.length→True)∧(∀ (e:Nat),e<o.length+(1:Nat) - o.length→True)∧∀ (d:Ex×List Path×Int×Int×Unit×List Spot),(Ex.normal,ePa.ag xs,n,IntKind.i64.wrap (i+(1:Int)),(),eSp.lst (min (o.length+(1:Nat)) o.length) (eSp.els o)++List.map (fun x=>Spot.mk (xs.getD i.toNat ePa.dflt).fr ((xs.getD i.toNat ePa.dflt).ss.getD (0:Nat) eS.dflt).f) (List.range (o.length+(1:Nat) - o.length)))=(Ex.normal,ePa.ag xs,n,IntKind.i64.wrap (i+(1:Int)),(),eSp.lst (min (o.length+(1:Nat)) o.length) (eSp.els o)++List.map (fun x=>Spot.mk (xs.getD i.toNat ePa.dflt).fr ((xs.getD i.toNat ePa.dflt).ss.getD (0:Nat) eS.dflt).f) (List.range (o.length+(1:Nat) - o.length)))))∧(conj ([(xs.getD i.toNat ePa.dflt).fr.node==(xs.getD i.toNat ePa.dflt).to.node]++([(xs.getD i.toNat ePa.dflt).fr.port==(xs.getD i.toNat ePa.dflt).to.port]++[]))=false→ePa.okL xs∧o.length≤o.length∧∀ (e:Nat),e<o.length→True))∧(decide (i<n)=false→ePa.okL xs∧o.length≤o.length∧∀ (e:Nat),e<o.length→True)
theorem z0j:((q00 Tryz.prog 15).filter fun c=>Nat.beq (lkey c) 4).length=1:=by kernel_rfl
abbrev q6e:Type:=List Path×Int
abbrev qey:Type:=Unit×List Spot
def plc_f (g:plc_G):Int×q6e×qey:=(g.2.2.1,(g.1,g.2.1),(g.2.2.2.1,g.2.2.2.2))
def plc_g (d:Int×q6e×qey):plc_G:=(d.2.1.1,d.2.1.2,d.1,d.2.2.1,d.2.2.2)
abbrev qex (g:plc_G):Ex×plc_G:=plc_R g.1 g.2.1 g.2.2.1 g.2.2.2.1 g.2.2.2.2
abbrev qwj (g:plc_G):Prop:=qhj g.1 g.2.1 g.2.2.1 g.2.2.2.1 g.2.2.2.2
theorem plc_es (g:plc_G):(qex g).1=.normal∨(qex g).1∈([.exit 0]:List Ex):=by
 unfold qex plc_R
 repeat' (first | (left;rfl) | (right;simp only[cond_true,cond_false];simp;done) | (rw[Bool.cond_eq_ite];split))
abbrev plc_C (Inv:plc_G→List Prop) (m:plc_G→Nat):LCon:=loopR [.exit 0] (loopBody Tryz.prog 15 4) qwm [] 33 Inv qex m
theorem qts (Inv:plc_G→List Prop) (m:plc_G→Nat) (hs:∀ g,allP (Inv g)→qwj g) (hg:Goes qex m fun g=>allP (Inv g)):∀ b∈q00 Tryz.prog 15,lkey b=4→q02 Tryz.prog b (plc_C Inv m).g:=q0g (Γ:=(PTab.gamz tabM3 [] [])) (Λ:=noΛ) (PTab.okz tabM3 [] []) q0o 100 15 4 33 qwm [] Inv qex qwj m default [.exit 0] z0j (fun rd T B HL HB ds g=>by kernel_rfl) (fun rd T B HL HB ds g=>by kernel_rfl) hs hg plc_es
def tabM5:PTab Tryz.prog:=tabM3
end
end Go.Proofs.YthnojkbkojpadaaGreat

namespace Go.Proofs.YthnojkbkojpadaaGreat
noncomputable section
open Go.RowKit Go.Sx Go.Lp
theorem eqKP (a b:Place):(a.node==b.node&&a.port==b.port)=decide (a=b):=by
 obtain ⟨f,k⟩:=a
 obtain ⟨f',k'⟩:=b
 rw[Bool.eq_iff_iff]
 simp
abbrev dEp:MpE Place Int:=(eP.ent eI).dflt
def hdS (v:Path):Int:=(v.ss.getD (0:Nat) eS.dflt).f
abbrev msetP (m:MPm) (v:Path):MPm:=msetG Path.fr hdS dEp m v
def dph_S (_:q5w) (b:qg6) (_:Int) (v:Path):Ex×qg6:=bif !decide (v.fr=v.to) then (.normal,b) else bif (v.ss.length:Int)==(0:Int) then (.ret,((),b.2.1,[],false)) else (.normal,((),msetP b.2.1 v,b.2.2))
def dph_K (_:q5w) (_:qg6) (_:Int):Prop:=True
abbrev dph_I (g:dph_G):List Prop:=ixI (fun c:q5w=>c.2) (fun c=>c.1) dph_K (dph_f g)
abbrev dph_M (g:dph_G):Nat:=ixM (fun c:q5w=>c.2) (dph_f g)
theorem dph_P:ixP dph_S (fun c:q5w=>c.1) dph_K:=fun _ _ _ _ h _ _=>h
abbrev qsc (g:dph_G):Ex×dph_G:=dph_R g.1 g.2.1 g.2.2.1 g.2.2.2.1 g.2.2.2.2.1 g.2.2.2.2.2.1 g.2.2.2.2.2.2
theorem dph_q (xs:List Path) (n i:Int) (m:List (MpE Place Int)) (clk:Nat) (z:MPz) (r:Bool):qdj xs n i () (m,clk) z r=kAt m (xs.getD i.toNat ePa.dflt).fr:=q3l _ dEp m fun j _=>eqKP _ _
theorem qy8 (d:Int×q5w×qg6) (_:allP (ixI (fun c:q5w=>c.2) (fun c=>c.1) dph_K d)):qsc (dph_g d)=((ixF 0 (fun c:q5w=>c.2) (fun c=>c.1) ePa.dflt dph_S d).1,dph_g (ixF 0 (fun c:q5w=>c.2) (fun c=>c.1) ePa.dflt dph_S d).2):=by
 obtain ⟨i,⟨xs,n⟩,⟨⟨⟩,⟨m,clk⟩,z,r⟩⟩:=d
 show dph_R xs n i () (m,clk) z r=_
 have hq:=dph_q xs n i m clk z r
 unfold dph_R ixF dph_S
 rw[hq]
 simp only[El.ag_eq,conjP]
 generalize (xs.getD i.toNat ePa.dflt)=v
 cases decide (i<n) with
 | false=>rfl
 | true=>
  simp only[cond_true]
  cases decide (v.fr=v.to) with
  | false=>rfl
  | true=>
   simp only[Bool.not_true,cond_false]
   cases (v.ss.length:Int)==(0:Int) with
   | true=>rfl
   | false=>
    simp only[cond_false]
    have hle:kAt m v.fr≤m.length:=List.findIdx_le_length
    rw[lst_put _ _ _ hle]
    unfold msetP msetG
    by_cases hj:kAt m v.fr<m.length
    ·simp only[hj,decide_true,cond_true,if_true];rfl
    ·simp only[hj,decide_false,cond_false,if_false];rfl
theorem rngP (i n:Int) (l:Nat) (h1:n=(l:Int)) (h3:0≤i) (h:decide (i<n)=true):0≤i∧i<(l:Int):=by
 have:=of_decide_eq_true h
 omega
theorem dph_ok:∀ b∈q00 Tryz.prog 59,lkey b=3→q02 Tryz.prog b (dph_C dph_I dph_M).g:=by
 refine qur dph_I dph_M (fun g hi=>?_) (q06 (fun _=>rfl) (fun _=>rfl) qy8 dph_P)
 obtain ⟨xs,n,i,⟨⟩,⟨m,clk⟩,z,r⟩:=g
 obtain ⟨h1,h2,h3,h4,h5⟩:=hi _ (List.mem_cons_self ..)
 have h1:n=(xs.length:Int):=h1
 have h3:0≤i:=h3
 have hle:kAt m (xs.getD i.toNat ePa.dflt).fr≤m.length:=List.findIdx_le_length
 show qiu xs n i () (m,clk) z r
 unfold qiu
 simp only[El.okL_eq,El.ag_eq,conjP,dph_q]
 generalize kAt m (xs.getD i.toNat ePa.dflt).fr=q at hle
 refine ⟨fun hlt=>?_,fun _=>?_⟩
 ·have:=rngP i n _ h1 h3 hlt
  repeat' (first | apply And.intro | intro _)
  all_goals first | trivial | rfl | omega | (rename_i hz;have hz:=beq_eq_false_iff_ne.1 hz;omega)
 ·repeat' (first | apply And.intro | intro _)
  all_goals first | trivial | rfl
theorem dph_run (xs:List Path) (z:MPz) (r:Bool) (k2:xs.length≤maxLen):loopF qsc dph_M (xs,(xs.length:Int),0,(),([],0),z,r)=((scan 0 (dph_S (xs,(xs.length:Int))) 0 xs ((),([],0),z,r)).1,dph_g ((scan 0 (dph_S (xs,(xs.length:Int))) 0 xs ((),([],0),z,r)).2.1,(xs,(xs.length:Int)),(scan 0 (dph_S (xs,(xs.length:Int))) 0 xs ((),([],0),z,r)).2.2)):=q0a (φ:=dph_f) (ψ:=dph_g) (fun _=>rfl) (fun _=>rfl) qy8 dph_P (xs,(xs.length:Int)) ((),([],0),z,r) rfl k2 trivial
def selfs (xs:List Path):List Path:=xs.filter fun v=>decide (v.fr=v.to)
def noD (v:Path):Bool:=decide (v.fr=v.to)&&(v.ss.length:Int)==(0:Int)
def depM (xs:List Path):MPm:=(selfs xs).foldl msetP ([],0)
theorem qiv (c:q5w):∀ (xs:List Path) (i:Int) (m:MPm) (z:MPz) (r:Bool),(xs.any noD=true∧∃ j m',scan 0 (dph_S c) i xs ((),m,z,r)=(.ret,j,(),m',[],false))∨(xs.any noD=false∧∃ j,scan 0 (dph_S c) i xs ((),m,z,r)=(.exit 0,j,(),(selfs xs).foldl msetP m,z,r))
 | [],i,m,z,r=>.inr ⟨rfl,_,rfl⟩
 | v :: xs,i,m,z,r=>by
  simp only[scan,dph_S,selfs,List.filter_cons,List.any_cons]
  cases h:decide (v.fr=v.to) with
  | false=>
   have hn:noD v=false:=by unfold noD;rw[h];rfl
   rw[hn,Bool.false_or]
   exact qiv c xs (i+1) m z r
  | true=>
   cases h0:(v.ss.length:Int)==(0:Int) with
   | true=>
    have hn:noD v=true:=by unfold noD;rw[h,h0];rfl
    rw[hn,Bool.true_or]
    exact .inl ⟨rfl,_,_,rfl⟩
   | false=>
    have hn:noD v=false:=by unfold noD;rw[h,h0];rfl
    rw[hn,Bool.false_or]
    exact qiv c xs (i+1) (msetP m v) z r
end
end Go.Proofs.YthnojkbkojpadaaGreat

namespace Go.Proofs.YthnojkbkojpadaaGreat
noncomputable section
open Go.RowKit Go.Sx Go.Lp
def pth_S (c:q3t) (b:qcf) (i:Int) (v:S):Ex×qcf:=bif q5p v != (0:Int)||(v.f != c.2.2.1||q2w v != c.2.2.2) then (.ret,false) else (.normal,b)
def pth_K (c:q3t) (b:qcf) (i:Int):Prop:=True
abbrev pth_I (g:pth_G):List Prop:=ixI (fun c:q3t=>c.2.1) (fun c:q3t=>c.1) pth_K (pth_f g)
abbrev pth_M (g:pth_G):Nat:=ixM (fun c:q3t=>c.2.1) (pth_f g)
theorem pth_P:ixP pth_S (fun c:q3t=>c.1) pth_K:=fun _ _ _ _ h _ _=>h
abbrev qwg (g:pth_G):Ex×pth_G:=pth_R g.1 g.2.1 g.2.2.1 g.2.2.2.1 g.2.2.2.2.1 g.2.2.2.2.2
theorem qwh (d:Int×q3t×qcf) (hi:allP (ixI (fun c:q3t=>c.2.1) (fun c:q3t=>c.1) pth_K d)):qwg (pth_g d)=((ixF 0 (fun c:q3t=>c.2.1) (fun c:q3t=>c.1) eS.dflt pth_S d).1,pth_g (ixF 0 (fun c:q3t=>c.2.1) (fun c:q3t=>c.1) eS.dflt pth_S d).2):=by
 obtain ⟨i,⟨xs,n,a,b⟩,r⟩:=d
 show pth_R xs n i a b r=_
 unfold pth_R ixF pth_S
 simp only[El.ag_eq]
 cases decide (i<n) with
 | false=>rfl
 | true=>
  simp only[cond_true]
  generalize (q5p (xs.getD i.toNat eS.dflt) != (0:Int)||((xs.getD i.toNat eS.dflt).f != a||q2w (xs.getD i.toNat eS.dflt) != b))=z
  cases z <;> rfl
theorem pth_ok:∀ b∈q00 Tryz.prog 80,lkey b=6→q02 Tryz.prog b (pth_C pth_I pth_M).g:=by
 refine qtr pth_I pth_M (fun g hi=>?_) (q06 (fun _=>rfl) (fun _=>rfl) qwh pth_P)
 obtain ⟨xs,n,i,a,b,r⟩:=g
 obtain ⟨h1,h2,h3,h4,h5⟩:=hi _ (List.mem_cons_self ..)
 have h1:n=(xs.length:Int):=h1
 have h3:0≤i:=h3
 have h5:True:=h5
 show qhi xs n i a b r
 unfold qhi
 simp only[decide_eq_true_eq,decide_eq_false_iff_not]
 have k0:∀ e:Nat,e<xs.length→eS.Ok (eS.els xs e):=fun e _=>eS.ok_els xs e
 clear hi
 repeat' (first | exact k0 | apply And.intro | intro _)
 all_goals omega
theorem z0d (c:q3t) (b:qcf) (k1:c.2.1=((c.1).length:Int)) (k2:(c.1).length≤maxLen) (k3:pth_K c b 0):loopF qwg pth_M (pth_g (0,c,b))=((scan 0 (pth_S c) 0 (c.1) b).1,pth_g ((scan 0 (pth_S c) 0 (c.1) b).2.1,c,(scan 0 (pth_S c) 0 (c.1) b).2.2)):=q0a (φ:=pth_f) (ψ:=pth_g) (fun _=>rfl) (fun _=>rfl) qwh pth_P c b k1 k2 k3
def ltM7:LTab Tryz.prog:=(LTab.nil.cons 80 6 (pth_C pth_I pth_M) pth_ok)
end
end Go.Proofs.YthnojkbkojpadaaGreat

namespace Go.Proofs.YthnojkbkojpadaaGreat
noncomputable section
open Go.RowKit Go.Sx Go.Lp
theorem byt34 (h:34<Tryz.prog.types.size):(Tryz.prog.types[(34:Nat)]'h).bytes=24:=by kernel_rfl
theorem byt24 (h:24<Tryz.prog.types.size):(Tryz.prog.types[(24:Nat)]'h).bytes=16:=by kernel_rfl
abbrev K30:Nat:=1000000
def plc_S (_:q6e) (b:qey) (_:Int) (v:Path):Ex×qey:=(.normal,((),bif decide (v.fr=v.to) then b.2++[Spot.mk v.fr (hdS v)] else b.2))
def Hd (l:List Path):Prop:=∀ e:Nat,e<l.length→(l.getD e ePa.dflt).fr=(l.getD e ePa.dflt).to→0<(l.getD e ePa.dflt).ss.length
def plc_K (c:q6e) (b:qey) (i:Int):Prop:=Hd c.1∧c.1.length≤K30∧(b.2.length:Int)≤i
abbrev plc_I (g:plc_G):List Prop:=ixI (fun c:q6e=>c.2) (fun c=>c.1) plc_K (plc_f g)
abbrev plc_M (g:plc_G):Nat:=ixM (fun c:q6e=>c.2) (plc_f g)
theorem plc_P:ixP plc_S (fun c:q6e=>c.1) plc_K:=fun c b i v h _ _=>by
 refine ⟨h.1,h.2.1,?_⟩
 have:=h.2.2
 show ((bif decide (v.fr=v.to) then b.2++[Spot.mk v.fr (hdS v)] else b.2).length:Int)≤i+1
 cases decide (v.fr=v.to)
 ·show (b.2.length:Int)≤i+1;omega
 ·show ((b.2++[_]).length:Int)≤i+1;rw[List.length_append];simp only[List.length_cons,List.length_nil];omega
abbrev qwk (g:plc_G):Ex×plc_G:=plc_R g.1 g.2.1 g.2.2.1 g.2.2.2.1 g.2.2.2.2
theorem qwl (d:Int×q6e×qey) (_:allP (ixI (fun c:q6e=>c.2) (fun c=>c.1) plc_K d)):qwk (plc_g d)=((ixF 0 (fun c:q6e=>c.2) (fun c=>c.1) ePa.dflt plc_S d).1,plc_g (ixF 0 (fun c:q6e=>c.2) (fun c=>c.1) ePa.dflt plc_S d).2):=by
 obtain ⟨i,⟨xs,n⟩,⟨⟨⟩,o⟩⟩:=d
 show plc_R xs n i () o=_
 unfold plc_R ixF plc_S
 simp only[El.ag_eq,conjP,q3e]
 generalize (xs.getD i.toNat ePa.dflt)=v
 cases decide (i<n) with
 | false=>rfl
 | true=>
  cases decide (v.fr=v.to) <;> rfl
theorem plc_ok:∀ b∈q00 Tryz.prog 15,lkey b=4→q02 Tryz.prog b (plc_C plc_I plc_M).g:=by
 refine qts plc_I plc_M (fun g hi=>?_) (q06 (fun _=>rfl) (fun _=>rfl) qwl plc_P)
 obtain ⟨xs,n,i,⟨⟩,o⟩:=g
 obtain ⟨h1,h2,h3,h4,h5,h6,h7⟩:=hi _ (List.mem_cons_self ..)
 have h1:n=(xs.length:Int):=h1
 have h2:xs.length≤maxLen:=h2
 have h3:0≤i:=h3
 have h4:i≤(xs.length:Int):=h4
 have h5:Hd xs:=h5
 have h6:xs.length≤1000000:=h6
 have h7:(o.length:Int)≤i:=h7
 have hm:o.length+1≤maxLen:=by unfold maxLen;omega
 show qhj xs n i () o
 unfold qhj
 simp only[El.okL_eq,El.ag_eq,conjP,byt34]
 refine ⟨fun hlt=>?_,fun _=>?_⟩
 ·have hr:=rngP i n _ h1 h3 hlt
  have h5:=h5 i.toNat (by omega)
  generalize (xs.getD i.toNat ePa.dflt)=v at h5
  refine ⟨hr,fun hq=>?_,fun _=>⟨trivial,Nat.le_refl _,fun _ _=>trivial⟩⟩
  have h5:=h5 (of_decide_eq_true hq)
  repeat' (first | apply And.intro | intro _)
  all_goals first | trivial | rfl | omega
 ·exact ⟨trivial,Nat.le_refl _,fun _ _=>trivial⟩
theorem z0i (xs:List Path) (k2:xs.length≤K30) (hd:Hd xs):loopF qwk plc_M (xs,(xs.length:Int),0,(),[])=(.exit 0,xs,(xs.length:Int),(xs.length:Int),(),(selfs xs).map fun v=>Spot.mk v.fr (hdS v)):=by
 have h:=q0a (φ:=plc_f) (ψ:=plc_g) (fun _=>rfl) (fun _=>rfl) qwl plc_P (xs,(xs.length:Int)) ((),[]) rfl (by show xs.length≤maxLen;unfold maxLen;unfold K30 at k2;omega) ⟨hd,k2,Int.le_refl _⟩
 have hs:∀ (l:List Path) (i:Int) (o:List Spot),scan 0 (plc_S (xs,(xs.length:Int))) i l ((),o)=(.exit 0,i+l.length,(),o++(selfs l).map fun v=>Spot.mk v.fr (hdS v)):=by
  intro l
  induction l with
  | nil=>intro i o;show (Ex.exit 0,i,(),o)=_;simp[selfs]
  | cons v l ih=>
   intro i o
   simp only[scan,plc_S,selfs,List.filter_cons]
   have ih:=ih (i+1)
   unfold selfs at ih
   cases h:decide (v.fr=v.to) with
   | false=>
    rw[cond_false]
    rw[ih o]
    simp only[List.length_cons,Bool.false_eq_true,if_false]
    rw[show i+1+(l.length:Int)=i+((l.length+1:Nat):Int) by omega]
   | true=>
    rw[cond_true]
    rw[ih (o++[_])]
    simp only[List.length_cons,if_true,List.map_cons,List.append_assoc,List.singleton_append]
    rw[show i+1+(l.length:Int)=i+((l.length+1:Nat):Int) by omega]
 have h:=h.trans (by
  show _=_
  rw[hs xs 0 []])
 rw[Int.zero_add] at h
 exact h
end
end Go.Proofs.YthnojkbkojpadaaGreat

namespace Go.Proofs.YthnojkbkojpadaaGreat
noncomputable section
open Go.RowKit Go.Sx Go.Lp
abbrev dEt:MpE En (List S):=(eEn.ent eLS).dflt
def keyPT (v:Path):En:=(v.fr,v.to)
abbrev msetT (m:List (En×List S×Int)×Nat) (v:Path):List (En×List S×Int)×Nat:=msetG keyPT Path.ss dEt m v
theorem eqKT (a b:Place) (c d:Place):(a.node==c.node&&(a.port==c.port&&(b.node==d.node&&b.port==d.port)))=decide ((a,b)=(c,d)):=by
 obtain ⟨f,k⟩:=a
 obtain ⟨f',k'⟩:=b
 obtain ⟨g,l⟩:=c
 obtain ⟨g',l'⟩:=d
 rw[Bool.eq_iff_iff]
 simp[and_assoc]
def addT (t:TBt) (v:Path):TBt:=(msetT t.1 v,bif decide (v.fr=v.to) then t.2++[v.fr] else t.2)
def tbo_S (_:q60) (b:qbx) (_:Int) (v:Path):Ex×qbx:=(.normal,((),addT b.2 v))
def tbo_K (c:q60) (b:qbx) (i:Int):Prop:=c.1.length≤K30∧(b.2.2.length:Int)≤i
abbrev tbo_I (g:tbo_G):List Prop:=ixI (fun c:q60=>c.2) (fun c=>c.1) tbo_K (tbo_f g)
abbrev tbo_M (g:tbo_G):Nat:=ixM (fun c:q60=>c.2) (tbo_f g)
theorem tbo_P:ixP tbo_S (fun c:q60=>c.1) tbo_K:=fun c b i v h _ _=>by
 refine ⟨h.1,?_⟩
 have:=h.2
 show ((bif decide (v.fr=v.to) then b.2.2++[v.fr] else b.2.2).length:Int)≤i+1
 cases decide (v.fr=v.to)
 ·show (b.2.2.length:Int)≤i+1;omega
 ·show ((b.2.2++[_]).length:Int)≤i+1;rw[List.length_append];simp only[List.length_cons,List.length_nil];omega
abbrev qvd (g:tbo_G):Ex×tbo_G:=tbo_R g.1 g.2.1 g.2.2.1 g.2.2.2.1 g.2.2.2.2
theorem tbo_q (xs:List Path) (n i:Int) (t:TBt):q1h xs n i () t=kAt t.1.1 (keyPT (xs.getD i.toNat ePa.dflt)):=q3l _ dEt t.1.1 fun j _=>eqKT _ _ _ _
theorem qve (d:Int×q60×qbx) (_:allP (ixI (fun c:q60=>c.2) (fun c=>c.1) tbo_K d)):qvd (tbo_g d)=((ixF 0 (fun c:q60=>c.2) (fun c=>c.1) ePa.dflt tbo_S d).1,tbo_g (ixF 0 (fun c:q60=>c.2) (fun c=>c.1) ePa.dflt tbo_S d).2):=by
 obtain ⟨i,⟨xs,n⟩,⟨⟨⟩,⟨⟨m,clk⟩,ps⟩⟩⟩:=d
 show tbo_R xs n i () ((m,clk),ps)=_
 have hq:=tbo_q xs n i ((m,clk),ps)
 unfold tbo_R ixF tbo_S
 rw[hq]
 simp only[El.ag_eq,conjP,q3e]
 generalize (xs.getD i.toNat ePa.dflt)=v
 cases decide (i<n) with
 | false=>rfl
 | true=>
  simp only[cond_true]
  have hle:kAt m (keyPT v)≤m.length:=List.findIdx_le_length
  rw[lst_put _ _ _ hle]
  unfold addT msetT msetG
  by_cases hj:kAt m (keyPT v)<m.length
  ·simp only[hj,decide_true,cond_true,if_true]
   cases decide (v.fr=v.to) <;> rfl
  ·simp only[hj,decide_false,cond_false,if_false]
   cases decide (v.fr=v.to) <;> rfl
theorem q5s (q:Prop) (hq:q) (p:Prop) (h:p∈([]++[]++([]++[])++([q]++[]):List Prop)):p:=by
 simp only[List.append_nil,List.nil_append,List.mem_singleton] at h
 subst h;exact hq
theorem tbo_ok:∀ b∈q00 Tryz.prog 57,lkey b=3→q02 Tryz.prog b (tbo_C tbo_I tbo_M).g:=by
 refine qsz tbo_I tbo_M (fun g hi=>?_) (q06 (fun _=>rfl) (fun _=>rfl) qve tbo_P)
 obtain ⟨xs,n,i,⟨⟩,⟨⟨m,clk⟩,ps⟩⟩:=g
 obtain ⟨h1,h2,h3,h4,h6,h7⟩:=hi _ (List.mem_cons_self ..)
 have h1:n=(xs.length:Int):=h1
 have h3:0≤i:=h3
 have h4:i≤(xs.length:Int):=h4
 have h6:xs.length≤1000000:=h6
 have h7:(ps.length:Int)≤i:=h7
 have hm:ps.length+1≤maxLen:=by unfold maxLen;omega
 show qh3 xs n i () ((m,clk),ps)
 unfold qh3
 simp only[El.okL_eq,conjP,byt24]
 refine ⟨fun hlt=>?_,fun _=>?_⟩
 ·have hr:=rngP i n _ h1 h3 hlt
  have hb:(ps.length+1) * 16≤140737488355328:=by omega
  repeat' (first | exact hr | exact hm | exact hb | exact fun p h=>q5s _ trivial p h | exact fun _ _ p h=>q5s _ trivial p h | apply And.intro | intro _)
  all_goals first | trivial | rfl | exact hr.1 | exact hr.2 | omega
 ·exact ⟨trivial,fun _ _ p h=>q5s _ trivial p h,Nat.le_refl _,fun _ _=>trivial⟩
theorem qzd (xs:List Path) (k2:xs.length≤K30):loopF qvd tbo_M (xs,(xs.length:Int),0,(),(([],0),[]))=(.exit 0,xs,(xs.length:Int),(xs.length:Int),(),xs.foldl addT (([],0),[])):=by
 have h:=q0a (φ:=tbo_f) (ψ:=tbo_g) (fun _=>rfl) (fun _=>rfl) qve tbo_P (xs,(xs.length:Int)) ((),(([],0),[])) rfl (by show xs.length≤maxLen;unfold maxLen;unfold K30 at k2;omega) ⟨k2,Int.le_refl _⟩
 have hs:=scan_fold (x:=0) (st:=tbo_S (xs,(xs.length:Int))) (f:=fun b v=>((),addT b.2 v)) (fun _ _ _=>rfl) xs 0 ((),(([],0),[]))
 have hf:∀ (l:List Path) (t:TBt),l.foldl (fun (b:qbx) v=>((),addT b.2 v)) ((),t)=((),l.foldl addT t):=by
  intro l
  induction l with
  | nil=>intro t;rfl
  | cons v l ih=>intro t;exact ih _
 rw[hf] at hs
 have h:=h.trans (by
  show _=_
  rw[hs])
 rw[Int.zero_add] at h
 exact h
def tabM9:PTab Tryz.prog:=tabM5.cons 18 (pconP aLSS dBool (fun g=>decide (g.1=g.2)) (fun _=>[])) (q0d eqSf_c puB)
def ltM9:LTab Tryz.prog:=((ltM7.cons 59 3 (dph_C dph_I dph_M) dph_ok).cons 57 3 (tbo_C tbo_I tbo_M) tbo_ok).cons 15 4 (plc_C plc_I plc_M) plc_ok
abbrev lamM9:Lam:=ltM9.lam
theorem qhz:∀ f k L,lamM9 f k=some L→∀ b∈q00 Tryz.prog f,lkey b=k→q02 Tryz.prog b L.g:=ltM9.ok
end
end Go.Proofs.YthnojkbkojpadaaGreat

namespace Go.Proofs.YthnojkbkojpadaaGreat
noncomputable section
open Go.RowKit Go.Sx
set_option linter.unusedVariables false
abbrev aLPo:DA (List Path):=.one dLP
abbrev dMB:Dv (List (Place×Int)×Bool):=.tup (.cons dMP (.one dBool))
def q55 (l:List Path):Ex ×
 dph_G:=
 loopF (fun g=>dph_R g.fst g.snd.fst g.snd.snd.fst g.snd.snd.snd.fst g.snd.snd.snd.snd.fst g.snd.snd.snd.snd.snd.fst g.snd.snd.snd.snd.snd.snd) dph_M (ePa.ag l,(↑l.length:Int),(0:Int),(),(List.map (fun x=>(Place.mk (0:Int) (0:Int),(0:Int),(0:Int))) (List.range (0:Nat)),(0:Nat)),[],false)
def dps_F (l:List Path):Dv.T dMB:=
 bif exB Ex.ret (q55 l).fst then ((eP.pair eI).ag (q55 l).snd.snd.snd.snd.snd.snd.fst,(q55 l).snd.snd.snd.snd.snd.snd.snd)
 else ((eP.pair eI).lst (q55 l).snd.snd.snd.snd.snd.fst.fst.length fun e=>List.take (3:Nat) ((ElE.fn ((eP.ent eI).els (q55 l).snd.snd.snd.snd.snd.fst.fst)).at e),decide ((↑(q55 l).snd.snd.snd.snd.snd.fst.fst.length:Int)≤(128:Int)))
def qbh (l:List Path):Prop:=
 ePa.okL l∧(∀ (e:Nat),e<(0:Nat)→True)∧Lp.ixJ (fun c=>c.snd) (fun c=>c.fst) dph_K (dph_f (ePa.ag l,(↑l.length:Int),(0:Int),(),(List.map (fun x=>(Place.mk (0:Int) (0:Int),(0:Int),(0:Int))) (List.range (0:Nat)),(0:Nat)),[],false))∧(exB Ex.ret (q55 l).fst=true→(eP.pair eI).okL (q55 l).snd.snd.snd.snd.snd.snd.fst)∧(exB Ex.ret (q55 l).fst=false→∀ (e:Nat),e<(q55 l).snd.snd.snd.snd.snd.fst.fst.length→(eP.pair eI).Ok (List.take (3:Nat) ((ElE.fn ((eP.ent eI).els (q55 l).snd.snd.snd.snd.snd.fst.fst)).at e)))
theorem dps_okS (pre:DA.T aLPo→List Prop) (h:∀ g,DA.bd aLPo g→(∀ p∈pre g,p)→qbh g):q04 Tryz.prog 59 aLPo dMB (fun g=>dps_F g) pre:=q08 (Γ:=(PTab.gamz tabM9 [] [])) (Λ:=lamM9) (PTab.okz tabM9 [] []) qhz 100 default (fun g=>qbh g) (fun g=>by kernel_rfl) (fun g=>by kernel_rfl) h
def q7o (_k:Unit) (l:List Path):Ex ×
 tbo_G:=
 loopF (fun g=>tbo_R g.fst g.snd.fst g.snd.snd.fst g.snd.snd.snd.fst g.snd.snd.snd.snd) tbo_M (ePa.ag l,(↑l.length:Int),(0:Int),(),(List.map (fun x=>((Place.mk (0:Int) (0:Int),Place.mk (0:Int) (0:Int)),[],(0:Int))) (List.range (0:Nat)),(0:Nat)),[])
def tbl_F (_k:Unit) (l:List Path):TA.T TA.nil×TR.T (TR.ct (CT.ptr 113 cTb) rfl):=
 ((),((eEn.ent eLS).ag (q7o _k l).snd.snd.snd.snd.snd.fst.fst,(q7o _k l).snd.snd.snd.snd.snd.fst.snd),eP.ag (q7o _k l).snd.snd.snd.snd.snd.snd)
def qah (_k:Unit) (l:List Path):Prop:=
 ePa.okL l∧(∀ (e:Nat),e<(0:Nat)→True)∧Lp.ixJ (fun c=>c.snd) (fun c=>c.fst) tbo_K (tbo_f (ePa.ag l,(↑l.length:Int),(0:Int),(),(List.map (fun x=>((Place.mk (0:Int) (0:Int),Place.mk (0:Int) (0:Int)),[],(0:Int))) (List.range (0:Nat)),(0:Nat)),[]))∧(∀ (e:Nat),e<(q7o _k l).snd.snd.snd.snd.snd.fst.fst.length→∀ (p:Prop),p∈[]++[]++([]++[])++([eS.okL ((q7o _k l).snd.snd.snd.snd.snd.fst.fst.getD e (eEn.ent eLS).dflt).snd.fst]++[])→p)∧(q7o _k l).snd.snd.snd.snd.snd.snd.length≤(q7o _k l).snd.snd.snd.snd.snd.snd.length∧∀ (e:Nat),e<(q7o _k l).snd.snd.snd.snd.snd.snd.length→True
theorem qzf (pre:TA.T TA.nil→DA.T aLPo→List Prop) (h:∀ k g,DA.bd aLPo g→(∀ p∈pre k g,p)→qah k g):FnT Tryz.prog 57 TA.nil aLPo (TR.ct (CT.ptr 113 cTb) rfl) (fun k g=>tbl_F k g) pre:=T_of_side (Γ:=(PTab.gamz tabM9 [] [])) (Λ:=lamM9) (PTab.okz tabM9 [] []) qhz 100 default (fun k g=>qah k g) (fun k g=>by kernel_rfl) (fun k g=>by kernel_rfl) h
def tabM10:PTab Tryz.prog:=tabM9
end
end Go.Proofs.YthnojkbkojpadaaGreat

namespace Go.Proofs.YthnojkbkojpadaaGreat.Su
noncomputable section
open Go.RowKit Go.Sx
abbrev C:=Bool×Int
abbrev CZ:=Bool×Bool×Int
def symZ (s:S) (k n:Nat):List CZ:=
 (match k with
  | 0=>[]
  | j+1=>List.replicate j (true,true,(0:Int))++[(true,false,s.a)])++(s.p.take n).map fun x=>(false,false,x)
def symC (s:S) (k n:Nat):List C:=
 (match k with
  | 0=>[]
  | j+1=>List.replicate j (true,(0:Int))++[(true,s.a)])++(s.p.take n).map fun x=>(false,x)
def leqT:List CZ→List CZ→Tr Bool
 | (s,z,n) :: r,(s',z',m) :: r'=>bif s&&!s' then .br (m != 1048576) (.ret false) (leqT r r') else bif z&&z' then leqT r r' else .br (decide (n > m)) (.ret false) (leqT r r')
 | _,_=>.ret true
def rleqT:List CZ→List CZ→Tr Bool
 | (s,z,n) :: r,(s',z',m) :: r'=>bif s&&!s' then .br (!m==1048576) (.ret false) (rleqT r r') else bif z&&z' then rleqT r r' else .br (!decide (n≤m)) (.ret false) (rleqT r r')
 | _,_=>.ret true
def le1 (x y:C):Bool:=bif x.1&&!y.1 then y.2==1048576 else decide (x.2≤y.2)
def leB:List C→List C→Bool
 | x :: r,y :: r'=>le1 x y&&leB r r'
 | _,_=>true
def symS (s:S):List C:=symC s s.k.toNat s.n.toNat
def leqC (a b:S):Bool:=may_F a&&(may_F b&&(a.f==b.f&&(a.k+a.n==b.k+b.n&&leB (symS a) (symS b))))
def unZ (x:CZ):C:=(x.1,x.2.2)
def ZOk (l:List CZ):Prop:=∀ x∈l,x.2.1=true→x.2.2=0
theorem q9r:∀ (l l':List CZ),ZOk l→ZOk l'→(leqT l l').Holds (·=leB (l.map unZ) (l'.map unZ))
 | [],[],_,_=>rfl
 | [],_ :: _,_,_=>rfl
 | _ :: _,[],_,_=>rfl
 | (s,z,n) :: r,(s',z',m) :: r',h,h'=>by
  have ih:=q9r r r' (fun x hx=>h x (List.mem_cons_of_mem _ hx)) (fun x hx=>h' x (List.mem_cons_of_mem _ hx))
  simp only[leqT,List.map_cons,leB,unZ,le1]
  cases hs:(s&&!s') with
  | true=>
   simp only[cond_true]
   refine ⟨fun hc=>?_,fun hc=>?_⟩
   ·show false=_
    rw[show (m==1048576)=false by simpa [bne] using hc];rfl
   ·rw[show (m==1048576)=true by simpa [bne] using hc];simpa using ih
  | false=>
   simp only[cond_false]
   cases hz:(z&&z') with
   | true=>
    simp only[Bool.and_eq_true] at hz
    have h1:=h _ (List.mem_cons_self ..) hz.1
    have h2:=h' _ (List.mem_cons_self ..) hz.2
    simp only at h1 h2
    subst h1;subst h2
    simpa using ih
   | false=>
    simp only[cond_false]
    refine ⟨fun hc=>?_,fun hc=>?_⟩
    ·show false=_
     rw[decide_eq_false (by have:=of_decide_eq_true hc;omega)];rfl
    ·rw[decide_eq_true (p:=n≤m) (by have:=of_decide_eq_false hc;omega)];simpa using ih
theorem qtj:∀ (l l':List CZ),(rleqT l l').Holds (·=leB (l.map unZ) (l'.map unZ))↔(leqT l l').Holds (·=leB (l.map unZ) (l'.map unZ)):=fun l l'=>by
 have:rleqT l l'=leqT l l':=by
  induction l generalizing l' with
  | nil=>cases l' <;> rfl
  | cons x r ih=>
   obtain ⟨s,z,n⟩:=x
   cases l' with
   | nil=>rfl
   | cons y r'=>
    obtain ⟨s',z',m⟩:=y
    simp only[rleqT,leqT,ih]
    have e1:(!m==1048576)=(m != 1048576):=rfl
    have e2:(!decide (n≤m))=decide (n > m):=by
     by_cases h:n≤m
     ·rw[decide_eq_true h,decide_eq_false (by omega)];rfl
     ·rw[decide_eq_false h,decide_eq_true (by omega)];rfl
    rw[e1,e2]
 rw[this]
theorem qgx (s:S) (k n:Nat):ZOk (symZ s k n):=by
 intro x hx hz
 unfold symZ at hx
 rcases List.mem_append.1 hx with h | h
 ·cases k with
  | zero=>simp at h
  | succ j=>
   simp only[List.mem_append,List.mem_replicate,List.mem_singleton] at h
   rcases h with ⟨_,rfl⟩ | rfl
   ·rfl
   ·cases hz
 ·obtain ⟨y,_,rfl⟩:=List.mem_map.1 h
  cases hz
theorem qgy (s:S) (k n:Nat):(symZ s k n).map unZ=symC s k n:=by
 unfold symZ symC
 cases k <;> simp[unZ,Function.comp_def]
abbrev g1:Gam:=tab2.gamz [] [(186,0,5),(224,0,5),(199,4,5)]
def leqTr (a b:S) (k n k' n':Nat):Tr Bool:=
 .br (!may_F (litS a k n)||(!may_F (litS b k' n')||a.f != b.f)) (.ret false) (leqT (symZ a k n) (symZ b k' n'))
def qw4 (a b:S) (k n k' n':Nat):Tr Bool:=
 .br (q0x (litS a k n) != 0||(q0x (litS b k' n') != 0||a.f != b.f)) (.ret false) (rleqT (symZ a k n) (symZ b k' n'))
set_option maxHeartbeats 4000000 in
theorem qtw (a b:S) (k n k' n':Nat) (h1:k+n≤4) (h2:k'+n'=k+n):dTree Tryz.prog g1 noΛ 100 186 [encK a k n,encK b k' n'] dBool=leqTr a b k n k' n':=by
 rcases four (show k≤4 by omega) with rfl | rfl | rfl | rfl | rfl <;> rcases four (show n≤4 by omega) with rfl | rfl | rfl | rfl | rfl <;> first
  | (exfalso;omega)
  | (rcases four (show k'≤4 by omega) with rfl | rfl | rfl | rfl | rfl <;> first
    | (exfalso;omega)
    | (rcases four (show n'≤4 by omega) with rfl | rfl | rfl | rfl | rfl <;> first
      | (exfalso;omega)
      | as_aux_lemma=>kernel_rfl))
set_option maxHeartbeats 4000000 in
theorem qr1 (a b:S) (k n k' n':Nat) (h1:k+n≤4) (h2:k'+n'=k+n):dTree Tryz.prog g1 noΛ 100 199 [encK a k n,encK b k' n'] dBool=qw4 a b k n k' n':=by
 rcases four (show k≤4 by omega) with rfl | rfl | rfl | rfl | rfl <;> rcases four (show n≤4 by omega) with rfl | rfl | rfl | rfl | rfl <;> first
  | (exfalso;omega)
  | (rcases four (show k'≤4 by omega) with rfl | rfl | rfl | rfl | rfl <;> first
    | (exfalso;omega)
    | (rcases four (show n'≤4 by omega) with rfl | rfl | rfl | rfl | rfl <;> first
      | (exfalso;omega)
      | as_aux_lemma=>kernel_rfl))
theorem leq_no (a b:S):dTree Tryz.prog g1 noΛ 100 186 (aSS.enc (a,b)) dBool=.br (!may_F a||(!may_F b||(a.f != b.f||w64 (a.k+a.n) != w64 (b.k+b.n)))) (.ret false) (els (dTree Tryz.prog g1 noΛ 100 186 (aSS.enc (a,b)) dBool)):=by kernel_rfl
theorem qzy (a b:S):dTree Tryz.prog g1 noΛ 100 199 (aSS.enc (a,b)) dBool=.br (q0x a != 0||(q0x b != 0||(a.f != b.f||w64 (a.k+a.n) != w64 (b.k+b.n)))) (.ret false) (els (dTree Tryz.prog g1 noΛ 100 199 (aSS.enc (a,b)) dBool)):=by kernel_rfl
theorem qf7 (a b:S):(leqC a b=false∧(!may_F a||(!may_F b||(a.f != b.f||w64 (a.k+a.n) != w64 (b.k+b.n))))=true) ∨
  (may_F a=true∧may_F b=true∧a.f=b.f∧a.k+a.n=b.k+b.n∧leqC a b=leB (symS a) (symS b)):=by
 cases ha:may_F a with
 | false=>exact .inl ⟨by simp[leqC,ha],rfl⟩
 | true=>
  cases hb:may_F b with
  | false=>exact .inl ⟨by simp[leqC,hb],rfl⟩
  | true=>
   have fa:=((q2u a).1 ha).1
   have fb:=((q2u b).1 hb).1
   have wa:w64 (a.k+a.n)=a.k+a.n:=wr (by omega)
   have wb:w64 (b.k+b.n)=b.k+b.n:=wr (by omega)
   rw[wa,wb]
   by_cases hf:a.f=b.f
   ·by_cases he:a.k+a.n=b.k+b.n
    ·exact .inr ⟨rfl,rfl,hf,he,by simp[leqC,ha,hb,hf,he]⟩
    ·exact .inl ⟨by simp[leqC,he],by simp[he]⟩
   ·exact .inl ⟨by simp[leqC,hf],by simp[hf]⟩
theorem z0q:q04 Tryz.prog 186 aSS dBool (fun g=>leqC g.1 g.2) (fun _=>[]):=by
 refine q2f (Γ:=g1) (Λ:=noΛ) (tab2.okz [] _) q0o 100 fun g _ _=>?_
 obtain ⟨a,b⟩:=g
 show ∃ args,(∀ n ρ x,SV.fits n ρ (aSS.enc (a,b)) x→SV.fits n ρ args x)∧(dTree Tryz.prog g1 noΛ 100 186 args dBool).Holds (·=leqC a b)
 rcases qf7 a b with ⟨h1,h2⟩ | ⟨ha,hb,hf,he,h⟩
 ·refine ⟨_,fun _ _ _ h=>h,?_⟩
  rw[leq_no,h2]
  generalize els (dTree Tryz.prog g1 noΛ 100 186 (aSS.enc (a,b)) dBool)=r
  exact ⟨fun _=>h1.symm,fun hc=>by cases hc⟩
 ·obtain ⟨ka,na,h4⟩:=sizes ((q2u a).1 ha)
  obtain ⟨kb,nb,_⟩:=sizes ((q2u b).1 hb)
  refine ⟨[encK a a.k.toNat a.n.toNat,encK b b.k.toNat b.n.toNat],fun _ _ _ h=>qdf ka na kb nb h,?_⟩
  rw[qtw a b _ _ _ _ h4 (by omega)]
  unfold leqTr
  rw[q5g ka na,q5g kb nb,ha,hb,hf,h]
  have:=q9r _ _ (qgx a a.k.toNat a.n.toNat) (qgx b b.k.toNat b.n.toNat)
  rw[qgy,qgy] at this
  exact ⟨fun hc=>by simp at hc,fun _=>this⟩
theorem qtk:q04 Tryz.prog 199 aSS dBool (fun g=>leqC g.1 g.2) (fun _=>[]):=by
 refine q2f (Γ:=g1) (Λ:=noΛ) (tab2.okz [] _) q0o 100 fun g _ _=>?_
 obtain ⟨a,b⟩:=g
 show ∃ args,(∀ n ρ x,SV.fits n ρ (aSS.enc (a,b)) x→SV.fits n ρ args x)∧(dTree Tryz.prog g1 noΛ 100 199 args dBool).Holds (·=leqC a b)
 rcases qf7 a b with ⟨h1,h2⟩ | ⟨ha,hb,hf,he,h⟩
 ·refine ⟨_,fun _ _ _ h=>h,?_⟩
  rw[qzy,rc_ne,rc_ne,h2]
  generalize els (dTree Tryz.prog g1 noΛ 100 199 (aSS.enc (a,b)) dBool)=r
  exact ⟨fun _=>h1.symm,fun hc=>by cases hc⟩
 ·obtain ⟨ka,na,h4⟩:=sizes ((q2u a).1 ha)
  obtain ⟨kb,nb,_⟩:=sizes ((q2u b).1 hb)
  refine ⟨[encK a a.k.toNat a.n.toNat,encK b b.k.toNat b.n.toNat],fun _ _ _ h=>qdf ka na kb nb h,?_⟩
  rw[qr1 a b _ _ _ _ h4 (by omega)]
  unfold qw4
  rw[q5g ka na,q5g kb nb,rc_ne,rc_ne,ha,hb,hf,h]
  have:=(qtj _ _).2 (q9r _ _ (qgx a a.k.toNat a.n.toNat) (qgx b b.k.toNat b.n.toNat))
  rw[qgy,qgy] at this
  exact ⟨fun hc=>by simp at hc,fun _=>this⟩
def tab7:PTab Tryz.prog:=(tabLB.cons 186 (pconP aSS dBool (fun g=>leqC g.1 g.2) (fun _=>[])) (q0d z0q puB)).cons 199 (pconP aSS dBool (fun g=>leqC g.1 g.2) (fun _=>[])) (q0d qtk puB)
end
end Go.Proofs.YthnojkbkojpadaaGreat.Su

namespace Go.Proofs.YthnojkbkojpadaaGreat.Su
noncomputable section
open Go.RowKit Go.Sx
set_option linter.unusedVariables false
def q2d (a:S) (b:S):Dv.T dBool:=
 !conj ([a.f==b.f]++([a.k==b.k]++([a.a==b.a]++([a.n==b.n]++([a.p0==b.p0]++([a.p1==b.p1]++([a.p2==b.p2]++([a.p3==b.p3]++[])))++[])))))&&(leqC a b&&(!leqC b a||decide (q1g a b<(0:Int))))
theorem z0p:q04 Tryz.prog 151 aSS dBool (fun g=>q2d g.1 g.2) (fun _=>[]):=q0l (Γ:=(PTab.gamz tab7 [] [])) (Λ:=noΛ) (PTab.okz tab7 [] []) q0o 100 default (fun g=>by kernel_rfl) (fun g=>by kernel_rfl)
def q33 (a:S) (b:S):Dv.T dBool:=
 leqC a b&&(!leqC b a||decide (q1j a b<(0:Int)))
theorem qsv:q04 Tryz.prog 162 aSS dBool (fun g=>q33 g.1 g.2) (fun _=>[]):=q0l (Γ:=(PTab.gamz tab7 [] [])) (Λ:=noΛ) (PTab.okz tab7 [] []) q0o 100 default (fun g=>by kernel_rfl) (fun g=>by kernel_rfl)
def tab15:PTab Tryz.prog:=((tab7).cons 151 (pconP aSS dBool (fun g=>q2d g.1 g.2) (fun _=>[])) (q0d z0p puB)).cons 162 (pconP aSS dBool (fun g=>q33 g.1 g.2) (fun _=>[])) (q0d qsv puB)
end
end Go.Proofs.YthnojkbkojpadaaGreat.Su

namespace Go.Proofs.YthnojkbkojpadaaGreat.Su
noncomputable section
open Go.RowKit Go.Sx
set_option linter.unusedVariables false
abbrev idx_G:Type:=List S×S×Int×Int×Int
def qx5:LP 0 idx_G:=.pair (.slot 0 0 dLS) (.pair (.slot 0 1 (dFnE 150 eS)) (.pair (.slot 0 7 dI) (.pair (.slot 0 8 dI) (.slot 0 4 dI))))
def idx_R (xs:List S) (s:S) (n:Int) (i:Int) (r:Int):Ex×idx_G:=
 bif decide (i<n) then bif q2d (xs.getD i.toNat eS.dflt) s then (Ex.ret,eS.ag xs,s,n,i,i) else (Ex.normal,eS.ag xs,s,n,IntKind.i64.wrap (i+(1:Int)),r)
 else (Ex.exit (0:Nat),eS.ag xs,s,n,i,r)
def qb9 (xs:List S) (s:S) (n:Int) (i:Int) (r:Int):Prop:=
 (decide (i<n)=true→((0:Int)≤i∧i<(↑xs.length:Int))∧(q2d (xs.getD i.toNat eS.dflt) s=true→eS.okL xs)∧(q2d (xs.getD i.toNat eS.dflt) s=false→eS.okL xs))∧(decide (i<n)=false→eS.okL xs)
theorem z1h:((q00 Tryz.prog 109).filter fun c=>Nat.beq (lkey c) 2).length=1:=by kernel_rfl
theorem idx_es (g:idx_G):(idx_R g.1 g.2.1 g.2.2.1 g.2.2.2.1 g.2.2.2.2).1=.normal∨(idx_R g.1 g.2.1 g.2.2.1 g.2.2.2.1 g.2.2.2.2).1∈([.ret,.exit 0]:List Ex):=by
 unfold idx_R
 repeat' (first | (left;rfl) | (right;simp only[cond_true,cond_false];simp;done) | (rw[Bool.cond_eq_ite];split))
abbrev idx_C (Inv:idx_G→List Prop) (m:idx_G→Nat):LCon:=loopR [.ret,.exit 0] (loopBody Tryz.prog 109 2) qx5 [] 19 Inv (fun g=>idx_R g.1 g.2.1 g.2.2.1 g.2.2.2.1 g.2.2.2.2) m
theorem qu8 (Inv:idx_G→List Prop) (m:idx_G→Nat) (hs:∀ g,allP (Inv g)→qb9 g.1 g.2.1 g.2.2.1 g.2.2.2.1 g.2.2.2.2) (hg:Goes (fun g:idx_G=>idx_R g.1 g.2.1 g.2.2.1 g.2.2.2.1 g.2.2.2.2) m fun g=>allP (Inv g)):∀ b∈q00 Tryz.prog 109,lkey b=2→q02 Tryz.prog b (idx_C Inv m).g:=q0g (Γ:=(PTab.gamz tab15 [] [])) (Λ:=noΛ) (PTab.okz tab15 [] []) q0o 100 109 2 19 qx5 [] Inv (fun g=>idx_R g.1 g.2.1 g.2.2.1 g.2.2.2.1 g.2.2.2.2) (fun g=>qb9 g.1 g.2.1 g.2.2.1 g.2.2.2.1 g.2.2.2.2) m default [.ret,.exit 0] z1h (fun rd T B HL HB ds g=>by kernel_rfl) (fun rd T B HL HB ds g=>by kernel_rfl) hs hg idx_es
end
end Go.Proofs.YthnojkbkojpadaaGreat.Su

namespace Go.Proofs.YthnojkbkojpadaaGreat.Su
noncomputable section
open Go.RowKit Go.Sx Go.Lp
def eqS (a b:S):Bool:=decide (a=b)
theorem qgf (a b:S):conj ([a.f==b.f]++([a.k==b.k]++([a.a==b.a]++([a.n==b.n]++([a.p0==b.p0]++([a.p1==b.p1]++([a.p2==b.p2]++([a.p3==b.p3]++[])))++[])))))=eqS a b:=by
 obtain ⟨f,k,c,n,p0,p1,p2,p3⟩:=a
 obtain ⟨f',k',c',n',p0',p1',p2',p3'⟩:=b
 unfold eqS
 simp[conj]
 rw[Bool.eq_iff_iff]
 simp
theorem qx4 (g:idx_G):idx_R g.1 g.2.1 g.2.2.1 g.2.2.2.1 g.2.2.2.2=fiF eS.dflt (fun s x=>q2d x s) g:=by
 unfold idx_R
 simp only[El.ag_eq,El.okL_eq]
 rfl
theorem q2r (xs:List S):∀ e:Nat,e<xs.length→eS.Ok (eS.els xs e):=fun e _=>eS.ok_els xs e
theorem q91:∀ b∈q00 Tryz.prog 109,lkey b=2→q02 Tryz.prog b (idx_C fiI fiM).g:=by
 refine qu8 fiI fiM (fun g hi=>?_) ?_
 ·obtain ⟨xs,s,n,i,r⟩:=g
  obtain ⟨h1,h2,h3,h4⟩:=hi _ (List.mem_cons_self ..)
  simp only at h1 h2 h3 h4
  show qb9 xs s n i r
  unfold qb9
  simp only[El.ag_eq,El.okL_eq]
  refine ⟨fun hc=>?_,fun _=>trivial⟩
  have hc:i<n:=of_decide_eq_true hc
  exact ⟨⟨h3,by omega⟩,fun _=>trivial,fun _=>trivial⟩
 ·have e:(fun g:idx_G=>idx_R g.1 g.2.1 g.2.2.1 g.2.2.2.1 g.2.2.2.2)=fiF eS.dflt (fun s x=>q2d x s):=funext qx4
  rw[e]
  exact fi_goes _ _
def lt20:LTab Tryz.prog:=(LTab.nil.cons 109 2 (idx_C fiI fiM) q91)
abbrev lam20:Lam:=lt20.lam
theorem qu2:∀ f k L,lam20 f k=some L→∀ b∈q00 Tryz.prog f,lkey b=k→q02 Tryz.prog b L.g:=lt20.ok
abbrev aLE:DA (List S×S):=.cons dLS (.one (dFnE 150 eS))
abbrev aLL:DA (List S×List S):=.cons dLS (.one dLS)
end
end Go.Proofs.YthnojkbkojpadaaGreat.Su

namespace Go.Proofs.YthnojkbkojpadaaGreat.Su
noncomputable section
open Go.RowKit Go.Sx
set_option linter.unusedVariables false
abbrev N2:Type:=Nat×Nat
abbrev cp2_G:Type:=Nat×List S×Int×N2×Int
def ql1:LP 1 cp2_G:=.pair (.owl 1 0 0) (.pair (.rowO 1 0 42 eS) (.pair (.slot 1 3 dI) (.pair (.seS 1 4 0 eS.sz) (.slot 1 5 dI))))
def cp2_R (l:Nat) (xs:List S) (k:Int) (q:N2) (j:Int):Ex×cp2_G:=
 bif decide (j<(↑q.snd:Int)) then (Ex.normal,l,bif !conj ([(xs.getD (q.fst+j.toNat) eS.dflt).f==(xs.getD (q.fst+(IntKind.i64.wrap (j - (1:Int))).toNat) eS.dflt).f]++([(xs.getD (q.fst+j.toNat) eS.dflt).k==(xs.getD (q.fst+(IntKind.i64.wrap (j - (1:Int))).toNat) eS.dflt).k]++([(xs.getD (q.fst+j.toNat) eS.dflt).a==(xs.getD (q.fst+(IntKind.i64.wrap (j - (1:Int))).toNat) eS.dflt).a]++([(xs.getD (q.fst+j.toNat) eS.dflt).n==(xs.getD (q.fst+(IntKind.i64.wrap (j - (1:Int))).toNat) eS.dflt).n]++([(xs.getD (q.fst+j.toNat) eS.dflt).p0==(xs.getD (q.fst+(IntKind.i64.wrap (j - (1:Int))).toNat) eS.dflt).p0]++([(xs.getD (q.fst+j.toNat) eS.dflt).p1==(xs.getD (q.fst+(IntKind.i64.wrap (j - (1:Int))).toNat) eS.dflt).p1]++([(xs.getD (q.fst+j.toNat) eS.dflt).p2==(xs.getD (q.fst+(IntKind.i64.wrap (j - (1:Int))).toNat) eS.dflt).p2]++([(xs.getD (q.fst+j.toNat) eS.dflt).p3==(xs.getD (q.fst+(IntKind.i64.wrap (j - (1:Int))).toNat) eS.dflt).p3]++[])))++[]))))) then (eS.lst (bif !conj ([(xs.getD (q.fst+j.toNat) eS.dflt).f==(xs.getD (q.fst+(IntKind.i64.wrap (j - (1:Int))).toNat) eS.dflt).f]++([(xs.getD (q.fst+j.toNat) eS.dflt).k==(xs.getD (q.fst+(IntKind.i64.wrap (j - (1:Int))).toNat) eS.dflt).k]++([(xs.getD (q.fst+j.toNat) eS.dflt).a==(xs.getD (q.fst+(IntKind.i64.wrap (j - (1:Int))).toNat) eS.dflt).a]++([(xs.getD (q.fst+j.toNat) eS.dflt).n==(xs.getD (q.fst+(IntKind.i64.wrap (j - (1:Int))).toNat) eS.dflt).n]++([(xs.getD (q.fst+j.toNat) eS.dflt).p0==(xs.getD (q.fst+(IntKind.i64.wrap (j - (1:Int))).toNat) eS.dflt).p0]++([(xs.getD (q.fst+j.toNat) eS.dflt).p1==(xs.getD (q.fst+(IntKind.i64.wrap (j - (1:Int))).toNat) eS.dflt).p1]++([(xs.getD (q.fst+j.toNat) eS.dflt).p2==(xs.getD (q.fst+(IntKind.i64.wrap (j - (1:Int))).toNat) eS.dflt).p2]++([(xs.getD (q.fst+j.toNat) eS.dflt).p3==(xs.getD (q.fst+(IntKind.i64.wrap (j - (1:Int))).toNat) eS.dflt).p3]++[])))++[]))))) then xs.length else xs.length) (eS.els xs)).set k.toNat (xs.getD (q.fst+j.toNat) eS.dflt) else eS.lst (bif !conj ([(xs.getD (q.fst+j.toNat) eS.dflt).f==(xs.getD (q.fst+(IntKind.i64.wrap (j - (1:Int))).toNat) eS.dflt).f]++([(xs.getD (q.fst+j.toNat) eS.dflt).k==(xs.getD (q.fst+(IntKind.i64.wrap (j - (1:Int))).toNat) eS.dflt).k]++([(xs.getD (q.fst+j.toNat) eS.dflt).a==(xs.getD (q.fst+(IntKind.i64.wrap (j - (1:Int))).toNat) eS.dflt).a]++([(xs.getD (q.fst+j.toNat) eS.dflt).n==(xs.getD (q.fst+(IntKind.i64.wrap (j - (1:Int))).toNat) eS.dflt).n]++([(xs.getD (q.fst+j.toNat) eS.dflt).p0==(xs.getD (q.fst+(IntKind.i64.wrap (j - (1:Int))).toNat) eS.dflt).p0]++([(xs.getD (q.fst+j.toNat) eS.dflt).p1==(xs.getD (q.fst+(IntKind.i64.wrap (j - (1:Int))).toNat) eS.dflt).p1]++([(xs.getD (q.fst+j.toNat) eS.dflt).p2==(xs.getD (q.fst+(IntKind.i64.wrap (j - (1:Int))).toNat) eS.dflt).p2]++([(xs.getD (q.fst+j.toNat) eS.dflt).p3==(xs.getD (q.fst+(IntKind.i64.wrap (j - (1:Int))).toNat) eS.dflt).p3]++[])))++[]))))) then xs.length else xs.length) (eS.els xs),bif !conj ([(xs.getD (q.fst+j.toNat) eS.dflt).f==(xs.getD (q.fst+(IntKind.i64.wrap (j - (1:Int))).toNat) eS.dflt).f]++([(xs.getD (q.fst+j.toNat) eS.dflt).k==(xs.getD (q.fst+(IntKind.i64.wrap (j - (1:Int))).toNat) eS.dflt).k]++([(xs.getD (q.fst+j.toNat) eS.dflt).a==(xs.getD (q.fst+(IntKind.i64.wrap (j - (1:Int))).toNat) eS.dflt).a]++([(xs.getD (q.fst+j.toNat) eS.dflt).n==(xs.getD (q.fst+(IntKind.i64.wrap (j - (1:Int))).toNat) eS.dflt).n]++([(xs.getD (q.fst+j.toNat) eS.dflt).p0==(xs.getD (q.fst+(IntKind.i64.wrap (j - (1:Int))).toNat) eS.dflt).p0]++([(xs.getD (q.fst+j.toNat) eS.dflt).p1==(xs.getD (q.fst+(IntKind.i64.wrap (j - (1:Int))).toNat) eS.dflt).p1]++([(xs.getD (q.fst+j.toNat) eS.dflt).p2==(xs.getD (q.fst+(IntKind.i64.wrap (j - (1:Int))).toNat) eS.dflt).p2]++([(xs.getD (q.fst+j.toNat) eS.dflt).p3==(xs.getD (q.fst+(IntKind.i64.wrap (j - (1:Int))).toNat) eS.dflt).p3]++[])))++[]))))) then IntKind.i64.wrap (k+(1:Int)) else k,q,IntKind.i64.wrap (j+(1:Int)))
 else (Ex.exit (2:Nat),l,eS.ag xs,k,q,j)
def q4r (l:Nat) (xs:List S) (k:Int) (q:N2) (j:Int):Prop:=
 (decide (j<(↑q.snd:Int))=true→((0:Int)≤j∧j<(↑q.snd:Int))∧q.fst+j.toNat<xs.length∧((0:Int)≤IntKind.i64.wrap (j - (1:Int))∧IntKind.i64.wrap (j - (1:Int))<(↑q.snd:Int))∧q.fst+(IntKind.i64.wrap (j - (1:Int))).toNat<xs.length∧((!conj ([(xs.getD (q.fst+j.toNat) eS.dflt).f==(xs.getD (q.fst+(IntKind.i64.wrap (j - (1:Int))).toNat) eS.dflt).f]++([(xs.getD (q.fst+j.toNat) eS.dflt).k==(xs.getD (q.fst+(IntKind.i64.wrap (j - (1:Int))).toNat) eS.dflt).k]++([(xs.getD (q.fst+j.toNat) eS.dflt).a==(xs.getD (q.fst+(IntKind.i64.wrap (j - (1:Int))).toNat) eS.dflt).a]++([(xs.getD (q.fst+j.toNat) eS.dflt).n==(xs.getD (q.fst+(IntKind.i64.wrap (j - (1:Int))).toNat) eS.dflt).n]++([(xs.getD (q.fst+j.toNat) eS.dflt).p0==(xs.getD (q.fst+(IntKind.i64.wrap (j - (1:Int))).toNat) eS.dflt).p0]++([(xs.getD (q.fst+j.toNat) eS.dflt).p1==(xs.getD (q.fst+(IntKind.i64.wrap (j - (1:Int))).toNat) eS.dflt).p1]++([(xs.getD (q.fst+j.toNat) eS.dflt).p2==(xs.getD (q.fst+(IntKind.i64.wrap (j - (1:Int))).toNat) eS.dflt).p2]++([(xs.getD (q.fst+j.toNat) eS.dflt).p3==(xs.getD (q.fst+(IntKind.i64.wrap (j - (1:Int))).toNat) eS.dflt).p3]++[])))++[]))))))=true→(0:Int)≤j∧j<(↑q.snd:Int))∧((!conj ([(xs.getD (q.fst+j.toNat) eS.dflt).f==(xs.getD (q.fst+(IntKind.i64.wrap (j - (1:Int))).toNat) eS.dflt).f]++([(xs.getD (q.fst+j.toNat) eS.dflt).k==(xs.getD (q.fst+(IntKind.i64.wrap (j - (1:Int))).toNat) eS.dflt).k]++([(xs.getD (q.fst+j.toNat) eS.dflt).a==(xs.getD (q.fst+(IntKind.i64.wrap (j - (1:Int))).toNat) eS.dflt).a]++([(xs.getD (q.fst+j.toNat) eS.dflt).n==(xs.getD (q.fst+(IntKind.i64.wrap (j - (1:Int))).toNat) eS.dflt).n]++([(xs.getD (q.fst+j.toNat) eS.dflt).p0==(xs.getD (q.fst+(IntKind.i64.wrap (j - (1:Int))).toNat) eS.dflt).p0]++([(xs.getD (q.fst+j.toNat) eS.dflt).p1==(xs.getD (q.fst+(IntKind.i64.wrap (j - (1:Int))).toNat) eS.dflt).p1]++([(xs.getD (q.fst+j.toNat) eS.dflt).p2==(xs.getD (q.fst+(IntKind.i64.wrap (j - (1:Int))).toNat) eS.dflt).p2]++([(xs.getD (q.fst+j.toNat) eS.dflt).p3==(xs.getD (q.fst+(IntKind.i64.wrap (j - (1:Int))).toNat) eS.dflt).p3]++[])))++[]))))))=true→q.fst+j.toNat<xs.length)∧((!conj ([(xs.getD (q.fst+j.toNat) eS.dflt).f==(xs.getD (q.fst+(IntKind.i64.wrap (j - (1:Int))).toNat) eS.dflt).f]++([(xs.getD (q.fst+j.toNat) eS.dflt).k==(xs.getD (q.fst+(IntKind.i64.wrap (j - (1:Int))).toNat) eS.dflt).k]++([(xs.getD (q.fst+j.toNat) eS.dflt).a==(xs.getD (q.fst+(IntKind.i64.wrap (j - (1:Int))).toNat) eS.dflt).a]++([(xs.getD (q.fst+j.toNat) eS.dflt).n==(xs.getD (q.fst+(IntKind.i64.wrap (j - (1:Int))).toNat) eS.dflt).n]++([(xs.getD (q.fst+j.toNat) eS.dflt).p0==(xs.getD (q.fst+(IntKind.i64.wrap (j - (1:Int))).toNat) eS.dflt).p0]++([(xs.getD (q.fst+j.toNat) eS.dflt).p1==(xs.getD (q.fst+(IntKind.i64.wrap (j - (1:Int))).toNat) eS.dflt).p1]++([(xs.getD (q.fst+j.toNat) eS.dflt).p2==(xs.getD (q.fst+(IntKind.i64.wrap (j - (1:Int))).toNat) eS.dflt).p2]++([(xs.getD (q.fst+j.toNat) eS.dflt).p3==(xs.getD (q.fst+(IntKind.i64.wrap (j - (1:Int))).toNat) eS.dflt).p3]++[])))++[]))))))=true→(0:Int)≤k∧k<(↑l:Int))∧((!conj ([(xs.getD (q.fst+j.toNat) eS.dflt).f==(xs.getD (q.fst+(IntKind.i64.wrap (j - (1:Int))).toNat) eS.dflt).f]++([(xs.getD (q.fst+j.toNat) eS.dflt).k==(xs.getD (q.fst+(IntKind.i64.wrap (j - (1:Int))).toNat) eS.dflt).k]++([(xs.getD (q.fst+j.toNat) eS.dflt).a==(xs.getD (q.fst+(IntKind.i64.wrap (j - (1:Int))).toNat) eS.dflt).a]++([(xs.getD (q.fst+j.toNat) eS.dflt).n==(xs.getD (q.fst+(IntKind.i64.wrap (j - (1:Int))).toNat) eS.dflt).n]++([(xs.getD (q.fst+j.toNat) eS.dflt).p0==(xs.getD (q.fst+(IntKind.i64.wrap (j - (1:Int))).toNat) eS.dflt).p0]++([(xs.getD (q.fst+j.toNat) eS.dflt).p1==(xs.getD (q.fst+(IntKind.i64.wrap (j - (1:Int))).toNat) eS.dflt).p1]++([(xs.getD (q.fst+j.toNat) eS.dflt).p2==(xs.getD (q.fst+(IntKind.i64.wrap (j - (1:Int))).toNat) eS.dflt).p2]++([(xs.getD (q.fst+j.toNat) eS.dflt).p3==(xs.getD (q.fst+(IntKind.i64.wrap (j - (1:Int))).toNat) eS.dflt).p3]++[])))++[]))))))=true→k.toNat<xs.length)∧True∧(∀ (e:Nat),(e<bif !conj ([(xs.getD (q.fst+j.toNat) eS.dflt).f==(xs.getD (q.fst+(IntKind.i64.wrap (j - (1:Int))).toNat) eS.dflt).f]++([(xs.getD (q.fst+j.toNat) eS.dflt).k==(xs.getD (q.fst+(IntKind.i64.wrap (j - (1:Int))).toNat) eS.dflt).k]++([(xs.getD (q.fst+j.toNat) eS.dflt).a==(xs.getD (q.fst+(IntKind.i64.wrap (j - (1:Int))).toNat) eS.dflt).a]++([(xs.getD (q.fst+j.toNat) eS.dflt).n==(xs.getD (q.fst+(IntKind.i64.wrap (j - (1:Int))).toNat) eS.dflt).n]++([(xs.getD (q.fst+j.toNat) eS.dflt).p0==(xs.getD (q.fst+(IntKind.i64.wrap (j - (1:Int))).toNat) eS.dflt).p0]++([(xs.getD (q.fst+j.toNat) eS.dflt).p1==(xs.getD (q.fst+(IntKind.i64.wrap (j - (1:Int))).toNat) eS.dflt).p1]++([(xs.getD (q.fst+j.toNat) eS.dflt).p2==(xs.getD (q.fst+(IntKind.i64.wrap (j - (1:Int))).toNat) eS.dflt).p2]++([(xs.getD (q.fst+j.toNat) eS.dflt).p3==(xs.getD (q.fst+(IntKind.i64.wrap (j - (1:Int))).toNat) eS.dflt).p3]++[])))++[]))))) then xs.length else xs.length)→True)∧∀ (e:Nat),(e<bif !conj ([(xs.getD (q.fst+j.toNat) eS.dflt).f==(xs.getD (q.fst+(IntKind.i64.wrap (j - (1:Int))).toNat) eS.dflt).f]++([(xs.getD (q.fst+j.toNat) eS.dflt).k==(xs.getD (q.fst+(IntKind.i64.wrap (j - (1:Int))).toNat) eS.dflt).k]++([(xs.getD (q.fst+j.toNat) eS.dflt).a==(xs.getD (q.fst+(IntKind.i64.wrap (j - (1:Int))).toNat) eS.dflt).a]++([(xs.getD (q.fst+j.toNat) eS.dflt).n==(xs.getD (q.fst+(IntKind.i64.wrap (j - (1:Int))).toNat) eS.dflt).n]++([(xs.getD (q.fst+j.toNat) eS.dflt).p0==(xs.getD (q.fst+(IntKind.i64.wrap (j - (1:Int))).toNat) eS.dflt).p0]++([(xs.getD (q.fst+j.toNat) eS.dflt).p1==(xs.getD (q.fst+(IntKind.i64.wrap (j - (1:Int))).toNat) eS.dflt).p1]++([(xs.getD (q.fst+j.toNat) eS.dflt).p2==(xs.getD (q.fst+(IntKind.i64.wrap (j - (1:Int))).toNat) eS.dflt).p2]++([(xs.getD (q.fst+j.toNat) eS.dflt).p3==(xs.getD (q.fst+(IntKind.i64.wrap (j - (1:Int))).toNat) eS.dflt).p3]++[])))++[]))))) then xs.length else xs.length)→True)∧(decide (j<(↑q.snd:Int))=false→∀ (e:Nat),e<xs.length→True)
theorem qn5:((q00 Tryz.prog 154).filter fun c=>Nat.beq (lkey c) 9).length=1:=by kernel_rfl
theorem qsh (g:cp2_G):(cp2_R g.1 g.2.1 g.2.2.1 g.2.2.2.1 g.2.2.2.2).1=.normal∨(cp2_R g.1 g.2.1 g.2.2.1 g.2.2.2.1 g.2.2.2.2).1∈([.exit 2]:List Ex):=by
 unfold cp2_R
 repeat' (first | (left;rfl) | (right;simp only[cond_true,cond_false];simp;done) | (rw[Bool.cond_eq_ite];split))
abbrev cp2_C (Inv:cp2_G→List Prop) (m:cp2_G→Nat):LCon:=loopR [.exit 2] (loopBody Tryz.prog 154 9) ql1 [] 61 Inv (fun g=>cp2_R g.1 g.2.1 g.2.2.1 g.2.2.2.1 g.2.2.2.2) m
theorem qj0 (Inv:cp2_G→List Prop) (m:cp2_G→Nat) (hs:∀ g,allP (Inv g)→q4r g.1 g.2.1 g.2.2.1 g.2.2.2.1 g.2.2.2.2) (hg:Goes (fun g:cp2_G=>cp2_R g.1 g.2.1 g.2.2.1 g.2.2.2.1 g.2.2.2.2) m fun g=>allP (Inv g)):∀ b∈q00 Tryz.prog 154,lkey b=9→q02 Tryz.prog b (cp2_C Inv m).g:=q0g (Γ:=(MTab.gamz (MTab.of tab15) [] [])) (Λ:=noΛ) (MTab.okz (MTab.of tab15) [] []) q0o 100 154 9 61 ql1 [] Inv (fun g=>cp2_R g.1 g.2.1 g.2.2.1 g.2.2.2.1 g.2.2.2.2) (fun g=>q4r g.1 g.2.1 g.2.2.1 g.2.2.2.1 g.2.2.2.2) m default [.exit 2] qn5 (fun rd T B HL HB ds g=>by kernel_rfl) (fun rd T B HL HB ds g=>by kernel_rfl) hs hg qsh
end
end Go.Proofs.YthnojkbkojpadaaGreat.Su

namespace Go.Proofs.YthnojkbkojpadaaGreat.Su
noncomputable section
open Go.RowKit Go.Sx Go.Lp
theorem ql0 (g:cp2_G):cp2_R g.1 g.2.1 g.2.2.1 g.2.2.2.1 g.2.2.2.2=cpF eS.dflt g:=by
 obtain ⟨l,xs,k,q,j⟩:=g
 show cp2_R l xs k q j=cpF eS.dflt (l,xs,k,q,j)
 unfold cp2_R cpF
 simp only[qgf,eqS,Bool.cond_self,El.lst_els,El.ag_eq,El.okL_eq]
theorem qkz:∀ b∈q00 Tryz.prog 154,lkey b=9→q02 Tryz.prog b (cp2_C cpI cpM).g:=by
 refine qj0 cpI cpM (fun g hi=>?_) ?_
 ·obtain ⟨l,xs,k,⟨o,n⟩,j⟩:=g
  obtain ⟨h1,h2,h3,h4,h5,h6,h7⟩:=hi _ (List.mem_cons_self ..)
  simp only at h1 h2 h3 h4 h5 h6 h7
  unfold maxLen at h2
  show q4r l xs k (o,n) j
  unfold q4r
  simp only[qgf]
  generalize (!eqS _ _)=c
  refine ⟨fun hc=>?_,fun _ _ _=>trivial⟩
  have hc:j<(n:Int):=of_decide_eq_true hc
  have w1:IntKind.i64.wrap (j - 1)=j - 1:=Lp.wr (by omega)
  rw[w1]
  refine ⟨by omega,by omega,by omega,by omega,fun _=>by omega,fun _=>by omega,fun _=>by omega,fun _=>by omega,trivial,fun _ _=>trivial,fun _ _=>trivial⟩
 ·have e:(fun g:cp2_G=>cp2_R g.1 g.2.1 g.2.2.1 g.2.2.2.1 g.2.2.2.2)=cpF eS.dflt:=funext ql0
  rw[e]
  exact qn4 _
def lt22:LTab Tryz.prog:=LTab.nil.cons 154 9 (cp2_C cpI cpM) qkz
abbrev lam22:Lam:=lt22.lam
theorem qu1:∀ f k L,lam22 f k=some L→∀ b∈q00 Tryz.prog f,lkey b=k→q02 Tryz.prog b L.g:=lt22.ok
end
end Go.Proofs.YthnojkbkojpadaaGreat.Su

namespace Go.Proofs.YthnojkbkojpadaaGreat.Su
noncomputable section
open Go.RowKit Go.Sx
set_option linter.unusedVariables false
abbrev BN:Type:=Bool×Nat
def q18 (l:Nat) (xs:List S) (k:Int) (r:BN):Ex ×
 cp2_G:=
 loopF (fun g=>cp2_R g.fst g.snd.fst g.snd.snd.fst g.snd.snd.snd.fst g.snd.snd.snd.snd) Lp.cpM (l,eS.ag xs,k,(k.toNat,l - k.toNat),(1:Int))
abbrev cp1_G:Type:=Nat×List S×Int×BN
def ql3:LP 1 cp1_G:=.pair (.owl 1 0 0) (.pair (.rowO 1 0 42 eS) (.pair (.slot 1 3 dI) (.owB 1 2 0)))
def cp1_R (l:Nat) (xs:List S) (k:Int) (r:BN):Ex×cp1_G:=
 bif decide (k<(↑l:Int)) then bif conj ([(xs.getD k.toNat eS.dflt).f==(xs.getD (IntKind.i64.wrap (k - (1:Int))).toNat eS.dflt).f]++([(xs.getD k.toNat eS.dflt).k==(xs.getD (IntKind.i64.wrap (k - (1:Int))).toNat eS.dflt).k]++([(xs.getD k.toNat eS.dflt).a==(xs.getD (IntKind.i64.wrap (k - (1:Int))).toNat eS.dflt).a]++([(xs.getD k.toNat eS.dflt).n==(xs.getD (IntKind.i64.wrap (k - (1:Int))).toNat eS.dflt).n]++([(xs.getD k.toNat eS.dflt).p0==(xs.getD (IntKind.i64.wrap (k - (1:Int))).toNat eS.dflt).p0]++([(xs.getD k.toNat eS.dflt).p1==(xs.getD (IntKind.i64.wrap (k - (1:Int))).toNat eS.dflt).p1]++([(xs.getD k.toNat eS.dflt).p2==(xs.getD (IntKind.i64.wrap (k - (1:Int))).toNat eS.dflt).p2]++([(xs.getD k.toNat eS.dflt).p3==(xs.getD (IntKind.i64.wrap (k - (1:Int))).toNat eS.dflt).p3]++[])))++[]))))) then (Ex.ret,(q18 l xs k r).snd.fst,eS.lst (q18 l xs k r).snd.snd.snd.fst.toNat (eS.els (q18 l xs k r).snd.snd.fst),(q18 l xs k r).snd.snd.snd.fst,true,(q18 l xs k r).snd.snd.snd.fst.toNat) else (Ex.normal,l,eS.ag xs,IntKind.i64.wrap (k+(1:Int)),r)
 else (Ex.exit (0:Nat),l,eS.ag xs,k,r)
def q4s (l:Nat) (xs:List S) (k:Int) (r:BN):Prop:=
 (decide (k<(↑l:Int))=true→((0:Int)≤k∧k<(↑l:Int))∧k.toNat<xs.length∧((0:Int)≤IntKind.i64.wrap (k - (1:Int))∧IntKind.i64.wrap (k - (1:Int))<(↑l:Int))∧(IntKind.i64.wrap (k - (1:Int))).toNat<xs.length∧(conj ([(xs.getD k.toNat eS.dflt).f==(xs.getD (IntKind.i64.wrap (k - (1:Int))).toNat eS.dflt).f]++([(xs.getD k.toNat eS.dflt).k==(xs.getD (IntKind.i64.wrap (k - (1:Int))).toNat eS.dflt).k]++([(xs.getD k.toNat eS.dflt).a==(xs.getD (IntKind.i64.wrap (k - (1:Int))).toNat eS.dflt).a]++([(xs.getD k.toNat eS.dflt).n==(xs.getD (IntKind.i64.wrap (k - (1:Int))).toNat eS.dflt).n]++([(xs.getD k.toNat eS.dflt).p0==(xs.getD (IntKind.i64.wrap (k - (1:Int))).toNat eS.dflt).p0]++([(xs.getD k.toNat eS.dflt).p1==(xs.getD (IntKind.i64.wrap (k - (1:Int))).toNat eS.dflt).p1]++([(xs.getD k.toNat eS.dflt).p2==(xs.getD (IntKind.i64.wrap (k - (1:Int))).toNat eS.dflt).p2]++([(xs.getD k.toNat eS.dflt).p3==(xs.getD (IntKind.i64.wrap (k - (1:Int))).toNat eS.dflt).p3]++[])))++[])))))=true→l≤l∧((0:Int)≤k∧k≤(↑l:Int))∧(∀ (e:Nat),e<xs.length→True)∧(l=(eS.ag xs).length∧(eS.ag xs).length≤maxLen∧k.toNat+(l - k.toNat)=(eS.ag xs).length∧(1:Int)≤(1:Int)∧(1:Int)≤(↑(l - k.toNat):Int)∧(0:Int)≤k∧k≤(↑k.toNat:Int)+(1:Int) - (1:Int))∧(q18 l xs k r).snd.fst≤(q18 l xs k r).snd.fst∧((0:Int)≤(q18 l xs k r).snd.snd.snd.fst∧(q18 l xs k r).snd.snd.snd.fst≤(↑(q18 l xs k r).snd.fst:Int))∧(q18 l xs k r).snd.snd.snd.fst.toNat+((q18 l xs k r).snd.fst - (q18 l xs k r).snd.snd.snd.fst.toNat)=(q18 l xs k r).snd.snd.fst.length∧((0:Int)≤(q18 l xs k r).snd.snd.snd.fst∧(q18 l xs k r).snd.snd.snd.fst≤(↑(q18 l xs k r).snd.fst:Int))∧∀ (e:Nat),e<(q18 l xs k r).snd.snd.snd.fst.toNat→True)∧(conj ([(xs.getD k.toNat eS.dflt).f==(xs.getD (IntKind.i64.wrap (k - (1:Int))).toNat eS.dflt).f]++([(xs.getD k.toNat eS.dflt).k==(xs.getD (IntKind.i64.wrap (k - (1:Int))).toNat eS.dflt).k]++([(xs.getD k.toNat eS.dflt).a==(xs.getD (IntKind.i64.wrap (k - (1:Int))).toNat eS.dflt).a]++([(xs.getD k.toNat eS.dflt).n==(xs.getD (IntKind.i64.wrap (k - (1:Int))).toNat eS.dflt).n]++([(xs.getD k.toNat eS.dflt).p0==(xs.getD (IntKind.i64.wrap (k - (1:Int))).toNat eS.dflt).p0]++([(xs.getD k.toNat eS.dflt).p1==(xs.getD (IntKind.i64.wrap (k - (1:Int))).toNat eS.dflt).p1]++([(xs.getD k.toNat eS.dflt).p2==(xs.getD (IntKind.i64.wrap (k - (1:Int))).toNat eS.dflt).p2]++([(xs.getD k.toNat eS.dflt).p3==(xs.getD (IntKind.i64.wrap (k - (1:Int))).toNat eS.dflt).p3]++[])))++[])))))=false→∀ (e:Nat),e<xs.length→True))∧(decide (k<(↑l:Int))=false→∀ (e:Nat),e<xs.length→True)
theorem qn6:((q00 Tryz.prog 154).filter fun c=>Nat.beq (lkey c) 4).length=1:=by kernel_rfl
theorem qsj (g:cp1_G):(cp1_R g.1 g.2.1 g.2.2.1 g.2.2.2).1=.normal∨(cp1_R g.1 g.2.1 g.2.2.1 g.2.2.2).1∈([.ret,.exit 0]:List Ex):=by
 unfold cp1_R
 repeat' (first | (left;rfl) | (right;simp only[cond_true,cond_false];simp;done) | (rw[Bool.cond_eq_ite];split))
abbrev cp1_C (Inv:cp1_G→List Prop) (m:cp1_G→Nat):LCon:=loopR [.ret,.exit 0] (loopBody Tryz.prog 154 4) ql3 [] 61 Inv (fun g=>cp1_R g.1 g.2.1 g.2.2.1 g.2.2.2) m
theorem qj1 (Inv:cp1_G→List Prop) (m:cp1_G→Nat) (hs:∀ g,allP (Inv g)→q4s g.1 g.2.1 g.2.2.1 g.2.2.2) (hg:Goes (fun g:cp1_G=>cp1_R g.1 g.2.1 g.2.2.1 g.2.2.2) m fun g=>allP (Inv g)):∀ b∈q00 Tryz.prog 154,lkey b=4→q02 Tryz.prog b (cp1_C Inv m).g:=q0g (Γ:=(MTab.gamz (MTab.of tab15) [] [])) (Λ:=lam22) (MTab.okz (MTab.of tab15) [] []) qu1 100 154 4 61 ql3 [] Inv (fun g=>cp1_R g.1 g.2.1 g.2.2.1 g.2.2.2) (fun g=>q4s g.1 g.2.1 g.2.2.1 g.2.2.2) m default [.ret,.exit 0] qn6 (fun rd T B HL HB ds g=>by kernel_rfl) (fun rd T B HL HB ds g=>by kernel_rfl) hs hg qsj
end
end Go.Proofs.YthnojkbkojpadaaGreat.Su

namespace Go.Proofs.YthnojkbkojpadaaGreat.Su
noncomputable section
open Go.RowKit Go.Sx Go.Lp
theorem qdn:(fun g:cp2_G=>cp2_R g.1 g.2.1 g.2.2.1 g.2.2.2.1 g.2.2.2.2)=cpF eS.dflt:=funext ql0
theorem ql2 (g:cp1_G):cp1_R g.1 g.2.1 g.2.2.1 g.2.2.2=coF eS.dflt g:=by
 obtain ⟨l,xs,k,r⟩:=g
 show cp1_R l xs k r=coF eS.dflt (l,xs,k,r)
 unfold cp1_R q18 coF coQ
 simp only[qgf,eqS,El.lst_els,El.ag_eq,El.okL_eq,qdn,lst_pfx]
theorem qsi:∀ b∈q00 Tryz.prog 154,lkey b=4→q02 Tryz.prog b (cp1_C (coI eS.dflt) coM).g:=by
 refine qj1 (coI eS.dflt) coM (fun g hi=>?_) ?_
 ·obtain ⟨l,xs,k,r⟩:=g
  obtain ⟨h1,h2,h3,h4,h5⟩:=hi _ (List.mem_cons_self ..)
  simp only at h1 h2 h3 h4 h5
  have h2':=h2
  unfold maxLen at h2
  show q4s l xs k r
  unfold q4s q18
  simp only[qgf,El.lst_els,El.ag_eq,El.okL_eq,qdn]
  have w1:k≤(xs.length:Int)→IntKind.i64.wrap (k - 1)=k - 1:=fun h=>Lp.wr (by omega)
  rw[w1 h4]
  have hI:k<(l:Int)→allP (cpI ((l,xs,k,(k.toNat,l - k.toNat),1):CpG S)):=fun hk q hq=>by
   simp only[cpI,List.mem_singleton] at hq
   subst hq
   exact ⟨h1,h2',by show k.toNat+(l - k.toNat)=xs.length;omega,Int.le_refl _,by show (1:Int)≤((l - k.toNat:Nat):Int);omega,by show 0≤k;omega,by show k≤(k.toNat:Int)+1 - 1;omega⟩
  have hrun:=fun hk=>cp_run eS.dflt _ (hI hk)
  simp only at hrun
  generalize loopF (cpF eS.dflt) cpM (l,xs,k,(k.toNat,l - k.toNat),1)=q at hrun ⊢
  refine ⟨fun hc=>?_,?_⟩
  ·have hc:k<(l:Int):=of_decide_eq_true hc
   obtain ⟨c1,c2,c3,c4,c5,c6⟩:=hrun hc
   repeat' (first | apply And.intro | intro h)
   all_goals (first | trivial | omega | (unfold maxLen;omega) | skip)
  ·repeat' (first | apply And.intro | intro h)
   all_goals (first | trivial | omega | skip)
 ·have e:(fun g:cp1_G=>cp1_R g.1 g.2.1 g.2.2.1 g.2.2.2)=coF eS.dflt:=funext ql2
  rw[e]
  exact qn9 _
def lt23:LTab Tryz.prog:=(LTab.nil.cons 154 9 (cp2_C cpI cpM) qkz).cons 154 4 (cp1_C (coI eS.dflt) coM) qsi
abbrev lam23:Lam:=lt23.lam
theorem qu0:∀ f k L,lam23 f k=some L→∀ b∈q00 Tryz.prog f,lkey b=k→q02 Tryz.prog b L.g:=lt23.ok
end
end Go.Proofs.YthnojkbkojpadaaGreat.Su

namespace Go.Proofs.YthnojkbkojpadaaGreat.Su
noncomputable section
open Go.RowKit Go.Sx
set_option linter.unusedVariables false
def q1u (xs:List S) (_u:Unit):Ex ×
 cp1_G:=
 loopF (fun g=>cp1_R g.fst g.snd.fst g.snd.snd.fst g.snd.snd.snd) Lp.coM (xs.length,eS.ag xs,(1:Int),false,(0:Nat))
def cpt_F (xs:List S) (_u:Unit):List S×RM.T RM.self:=
 bif decide ((↑xs.length:Int)<(2:Int)) then (eS.ag xs,xs.length)
 else bif exB Ex.ret (q1u xs _u).fst then (eS.ag (q1u xs _u).snd.snd.fst,(q1u xs _u).snd.snd.snd.snd.snd) else (eS.ag (q1u xs _u).snd.snd.fst,(q1u xs _u).snd.fst)
def q5n (xs:List S) (_u:Unit):Prop:=
 (decide ((↑xs.length:Int)<(2:Int))=true→∀ (e:Nat),e<xs.length→True)∧(decide ((↑xs.length:Int)<(2:Int))=false→(∀ (e:Nat),e<xs.length→True)∧(xs.length=(eS.ag xs).length∧(eS.ag xs).length≤maxLen∧(1:Int)≤(1:Int)∧(1:Int)≤(↑(eS.ag xs).length:Int)∧Lp.compL (eS.ag xs)=List.take (1:Nat) (eS.ag xs)++Lp.dd ((eS.ag xs).getD (0:Nat) eS.dflt) (List.drop (1:Nat) (eS.ag xs)))∧(exB Ex.ret (q1u xs _u).fst=true→(∀ (e:Nat),e<(q1u xs _u).snd.snd.fst.length→True)∧(q1u xs _u).snd.snd.snd.snd.fst=true)∧(exB Ex.ret (q1u xs _u).fst=false→∀ (e:Nat),e<(q1u xs _u).snd.snd.fst.length→True))
theorem qn2 (pre:List S→DA.T DA.none→List Prop) (h:∀ xs g,DA.bd DA.none g→xs.length≤maxLen→(∀ p∈pre xs g,p)→q5n xs g):FnMut Tryz.prog 154 42 eS DA.none RM.self (fun xs g=>cpt_F xs g) pre:=qcl (Γ:=(MTab.gamz (MTab.of tab15) [] [])) (Λ:=lam23) (MTab.okz (MTab.of tab15) [] []) qu0 100 default (fun xs g=>q5n xs g) (fun xs g=>by kernel_rfl) (fun xs g=>by kernel_rfl) h
end
end Go.Proofs.YthnojkbkojpadaaGreat.Su

namespace Go.Proofs.YthnojkbkojpadaaGreat.Su
noncomputable section
open Go.RowKit Go.Sx
set_option linter.unusedVariables false
def qrr (xs:List S) (s:S):Ex ×
 idx_G:=
 loopF (fun g=>idx_R g.fst g.snd.fst g.snd.snd.fst g.snd.snd.snd.fst g.snd.snd.snd.snd) Lp.fiM (eS.ag xs,s,(↑xs.length:Int),(0:Int),(0:Int))
def ixf_F (xs:List S) (s:S):Dv.T dI:=
 bif exB Ex.ret (qrr xs s).fst then (qrr xs s).snd.snd.snd.snd.snd else (-1:Int)
def qi3 (xs:List S) (s:S):Prop:=
 eS.okL xs∧(↑xs.length:Int)=(↑(eS.ag xs).length:Int)∧(eS.ag xs).length≤maxLen∧(0:Int)≤(0:Int)∧(0:Int)≤(↑(eS.ag xs).length:Int)
theorem z1b (pre:DA.T aLE→List Prop) (h:∀ g,DA.bd aLE g→(∀ p∈pre g,p)→qi3 g.1 g.2):q04 Tryz.prog 109 aLE dI (fun g=>ixf_F g.1 g.2) pre:=q08 (Γ:=(PTab.gamz tab15 [] [])) (Λ:=lam20) (PTab.okz tab15 [] []) qu2 100 default (fun g=>qi3 g.1 g.2) (fun g=>by kernel_rfl) (fun g=>by kernel_rfl) h
end
end Go.Proofs.YthnojkbkojpadaaGreat.Su

namespace Go.Proofs.YthnojkbkojpadaaGreat.Su
noncomputable section
open Go.RowKit Go.Sx Go.Lp
theorem z1i:(fun g:idx_G=>idx_R g.1 g.2.1 g.2.2.1 g.2.2.2.1 g.2.2.2.2)=fiF eS.dflt (fun s x=>q2d x s):=funext qx4
theorem ixf_ok:q04 Tryz.prog 109 aLE dI (fun g=>ixf_F g.1 g.2) (fun _=>[]):=z1b _ fun g hb _=>by
 obtain ⟨xs,s⟩:=g
 have hl:xs.length≤maxLen:=hb.1.1
 unfold qi3
 simp only[El.lst_els,El.ag_eq,El.okL_eq]
 repeat' apply And.intro
 all_goals first | trivial | rfl | omega
theorem z1c (xs:List S) (s:S) (h:xs.length≤maxLen):decide (0≤ixf_F xs s)=xs.any (q2d · s):=by
 unfold ixf_F qrr
 simp only[El.lst_els,El.ag_eq,El.okL_eq]
 rw[z1i]
 obtain ⟨h1,h2⟩:=fi_any eS.dflt (fun s x=>q2d x s) xs s 0 h
 generalize loopF (fiF eS.dflt (fun s x=>q2d x s)) fiM (xs,s,(xs.length:Int),0,0)=r at h1 h2
 rw[← h1]
 cases he:exB Ex.ret r.1 with
 | true=>
  have:=h2 (exB_eq he).symm
  simpa using this
 | false=>rfl
def tab21:PTab Tryz.prog:=(tab15.cons 109 (pconP aLE dI (fun g=>ixf_F g.1 g.2) (fun _=>[])) (q0d ixf_ok puI))
end
end Go.Proofs.YthnojkbkojpadaaGreat.Su

namespace Go.Proofs.YthnojkbkojpadaaGreat.Su
noncomputable section
open Go.RowKit Go.Sx
set_option linter.unusedVariables false
def has_F (xs:List S) (s:S):Dv.T dBool:=
 decide (ixf_F (eS.ag xs) s≥(0:Int))
def qom (xs:List S) (s:S):Prop:=
 eS.okL xs
theorem z1u (pre:DA.T aLE→List Prop) (h:∀ g,DA.bd aLE g→(∀ p∈pre g,p)→qom g.1 g.2):q04 Tryz.prog 64 aLE dBool (fun g=>has_F g.1 g.2) pre:=q08 (Γ:=(PTab.gamz tab21 [] [])) (Λ:=noΛ) (PTab.okz tab21 [] []) q0o 100 default (fun g=>qom g.1 g.2) (fun g=>by kernel_rfl) (fun g=>by kernel_rfl) h
end
end Go.Proofs.YthnojkbkojpadaaGreat.Su

namespace Go.Proofs.YthnojkbkojpadaaGreat.Su
open Go.RowKit Go.Sx Go.Lp
def keyS (a:S):List Int:=[a.f,a.k,a.a,a.n,a.p0,a.p1,a.p2,a.p3]
theorem qu3 (a b:S) (h:keyS a=keyS b):a=b:=by
 obtain ⟨f,k,c,n,p0,p1,p2,p3⟩:=a
 obtain ⟨f',k',c',n',p0',p1',p2',p3'⟩:=b
 simp only[keyS,List.cons.injEq,and_true] at h
 obtain ⟨rfl,rfl,rfl,rfl,rfl,rfl,rfl,rfl⟩:=h
 rfl
theorem cmp3 (x y:Int):(x<y∧q07 x y=-1)∨(y<x∧q07 x y=1)∨(x=y∧q07 x y=0):=by
 unfold q07
 by_cases h:x<y
 ·left;simp[h]
 ·by_cases h2:y<x
  ·right;left;simp[h,h2]
  ·right;right
   refine ⟨by omega,?_⟩
   simp[h,h2]
theorem qj2 (x y:Int):q0u x y=q07 x y:=rfl
theorem qdr (a b:S):q1g a b=lexC (keyS a) (keyS b):=by
 unfold q1g keyS
 simp only[qj2,lexC]
 rcases cmp3 a.f b.f with ⟨h,e⟩ | ⟨h,e⟩ | ⟨h,e⟩ <;> simp only[e]
 ·simp[h]
 ·have:¬ a.f<b.f:=by omega
  simp[h,this]
 rw[if_neg (by omega),if_neg (by omega)]
 rcases cmp3 a.k b.k with ⟨h,e⟩ | ⟨h,e⟩ | ⟨h,e⟩ <;> simp only[e]
 ·simp[h]
 ·have:¬ a.k<b.k:=by omega
  simp[h,this]
 rw[if_neg (by omega),if_neg (by omega)]
 rcases cmp3 a.a b.a with ⟨h,e⟩ | ⟨h,e⟩ | ⟨h,e⟩ <;> simp only[e]
 ·simp[h]
 ·have:¬ a.a<b.a:=by omega
  simp[h,this]
 rw[if_neg (by omega),if_neg (by omega)]
 rcases cmp3 a.n b.n with ⟨h,e⟩ | ⟨h,e⟩ | ⟨h,e⟩ <;> simp only[e]
 ·simp[h]
 ·have:¬ a.n<b.n:=by omega
  simp[h,this]
 rw[if_neg (by omega),if_neg (by omega)]
 rcases cmp3 a.p0 b.p0 with ⟨h,e⟩ | ⟨h,e⟩ | ⟨h,e⟩ <;> simp only[e]
 ·simp[h]
 ·have:¬ a.p0<b.p0:=by omega
  simp[h,this]
 rw[if_neg (by omega),if_neg (by omega)]
 rcases cmp3 a.p1 b.p1 with ⟨h,e⟩ | ⟨h,e⟩ | ⟨h,e⟩ <;> simp only[e]
 ·simp[h]
 ·have:¬ a.p1<b.p1:=by omega
  simp[h,this]
 rw[if_neg (by omega),if_neg (by omega)]
 rcases cmp3 a.p2 b.p2 with ⟨h,e⟩ | ⟨h,e⟩ | ⟨h,e⟩ <;> simp only[e]
 ·simp[h]
 ·have:¬ a.p2<b.p2:=by omega
  simp[h,this]
 rw[if_neg (by omega),if_neg (by omega)]
 rcases cmp3 a.p3 b.p3 with ⟨h,e⟩ | ⟨h,e⟩ | ⟨h,e⟩ <;> simp only[e]
 ·simp[h]
 ·have:¬ a.p3<b.p3:=by omega
  simp[h,this]
 rw[if_neg (by omega),if_neg (by omega)]
 simp
theorem qjs (a b:S):q1j a b=lexC (keyS a) (keyS b):=by
 unfold q1j keyS
 simp only[lexC,Bool.cond_decide,gt_iff_lt]
theorem toS:TO fun a b=>q1g a b:=to_lex keyS qu3 fun a b=>by rw[qdr]
end Go.Proofs.YthnojkbkojpadaaGreat.Su

namespace Go.Proofs.YthnojkbkojpadaaGreat.Su
open Go.RowKit Go.Sx Go.Lp Go.Shelf
def qqq:Go.Shelf.Ren:=⟨fun | 6=>152 | 15=>138 | 14=>187 | 28=>172 | 29=>173 | 20=>210 | 21=>211 | 22=>212 | 23=>213 | 24=>214 | 25=>215 | 26=>216 | 27=>217 | 46=>225 | 47=>202 | 48=>203 | 49=>226 | 50=>227 | 57=>229 | n=>n,fun | 22=>39 | 24=>42 | 25=>203 | 3=>3 | 39=>188 | 0=>0 | 53=>218 | 55=>220 | 4=>4 | 46=>212 | 45=>211 | 50=>27 | 5=>5 | 9=>9 | 66=>237 | 70=>241 | 76=>259 | 77=>260 | n=>n,fun | n=>n⟩
theorem sortS:SlLaysF0.n6 Tryz.prog qqq:={
 mixed:=by kernel_rfl,
 f6:=⟨Tryz.f152.name,by decide,Tryz.func152.trans (congrArg some (by kernel_rfl))⟩,
 f14:=⟨Tryz.f187.name,by decide,Tryz.func187.trans (congrArg some (by kernel_rfl))⟩,
 f15:=Tryz.func138.trans (congrArg some (by kernel_rfl)),
 f20:=⟨Tryz.f210.name,by decide,Tryz.func210.trans (congrArg some (by kernel_rfl))⟩,
 f21:=⟨Tryz.f211.name,by decide,Tryz.func211.trans (congrArg some (by kernel_rfl))⟩,
 f22:=⟨Tryz.f212.name,by decide,Tryz.func212.trans (congrArg some (by kernel_rfl))⟩,
 f23:=⟨Tryz.f213.name,by decide,Tryz.func213.trans (congrArg some (by kernel_rfl))⟩,
 f24:=⟨Tryz.f214.name,by decide,Tryz.func214.trans (congrArg some (by kernel_rfl))⟩,
 f25:=⟨Tryz.f215.name,by decide,Tryz.func215.trans (congrArg some (by kernel_rfl))⟩,
 f26:=⟨Tryz.f216.name,by decide,Tryz.func216.trans (congrArg some (by kernel_rfl))⟩,
 f27:=⟨Tryz.f217.name,by decide,Tryz.func217.trans (congrArg some (by kernel_rfl))⟩,
 f28:=Tryz.func172.trans (congrArg some (by kernel_rfl)),
 f29:=Tryz.func173.trans (congrArg some (by kernel_rfl)),
 f46:=⟨Tryz.f225.name,by decide,Tryz.func225.trans (congrArg some (by kernel_rfl))⟩,
 f47:=Tryz.func202.trans (congrArg some (by kernel_rfl)),
 f48:=Tryz.func203.trans (congrArg some (by kernel_rfl)),
 f49:=⟨Tryz.f226.name,by decide,Tryz.func226.trans (congrArg some (by kernel_rfl))⟩,
 f50:=⟨Tryz.f227.name,by decide,Tryz.func227.trans (congrArg some (by kernel_rfl))⟩,
 f57:=⟨Tryz.f229.name,by decide,Tryz.func229.trans (congrArg some (by kernel_rfl))⟩,
 t0:=Tryz.underlying0,
 a0:=Tryz.isAgg0,
 z0:=Tryz.sizeOf0,
 v0:=Tryz.zeroValue0,
 t3:=Tryz.underlying3,
 a3:=Tryz.isAgg3,
 z3:=Tryz.sizeOf3,
 v3:=Tryz.zeroValue3,
 t4:=Tryz.underlying4,
 a4:=Tryz.isAgg4,
 z4:=Tryz.sizeOf4,
 v4:=Tryz.zeroValue4,
 t5:=Tryz.underlying5,
 a5:=Tryz.isAgg5,
 z5:=Tryz.sizeOf5,
 v5:=Tryz.zeroValue5,
 t9:=Tryz.underlying9,
 a9:=Tryz.isAgg9,
 z9:=Tryz.sizeOf9,
 v9:=Tryz.zeroValue9,
 t22:=Tryz.underlying39,
 a22:=Tryz.isAgg39,
 z22:=Tryz.sizeOf39,
 v22:=Tryz.zeroValue39,
 t25:=Tryz.underlying203,
 a25:=Tryz.isAgg203,
 z25:=Tryz.sizeOf203,
 v25:=Tryz.zeroValue203,
 t39:=Tryz.underlying188,
 a39:=Tryz.isAgg188,
 z39:=Tryz.sizeOf188,
 v39:=Tryz.zeroValue188,
 t45:=Tryz.underlying211,
 a45:=Tryz.isAgg211,
 z45:=Tryz.sizeOf211,
 v45:=Tryz.zeroValue211,
 t46:=Tryz.underlying212,
 a46:=Tryz.isAgg212,
 z46:=Tryz.sizeOf212,
 v46:=Tryz.zeroValue212,
 t50:=Tryz.underlying27,
 a50:=Tryz.isAgg27,
 z50:=Tryz.sizeOf27,
 v50:=Tryz.zeroValue27,
 t53:=Tryz.underlying218,
 a53:=Tryz.isAgg218,
 z53:=Tryz.sizeOf218,
 v53:=Tryz.zeroValue218,
 t55:=Tryz.underlying220,
 a55:=Tryz.isAgg220,
 z55:=Tryz.sizeOf220,
 v55:=Tryz.zeroValue220,
 t66:=Tryz.underlying237,
 a66:=Tryz.isAgg237,
 z66:=Tryz.sizeOf237,
 v66:=Tryz.zeroValue237,
 t70:=Tryz.underlying241,
 a70:=Tryz.isAgg241,
 z70:=Tryz.sizeOf241,
 v70:=Tryz.zeroValue241,
 t76:=Tryz.underlying259,
 a76:=Tryz.isAgg259,
 z76:=Tryz.sizeOf259,
 v76:=Tryz.zeroValue259,
 t77:=Tryz.underlying260,
 a77:=Tryz.isAgg260,
 z77:=Tryz.sizeOf260,
 v77:=Tryz.zeroValue260 }
abbrev qga:Dv Unit:=.tup .none
abbrev qlg:DA Unit:=.one (dFn 153)
def qjx (xs:List S) (_:Unit):List Prop:=[xs.length<4611686018427387904]
theorem qt2:FnMut Tryz.prog 152 42 eS qlg (.pure qga) (fun xs _=>(srtBy (fun a b=>q1g a b) xs,())) qjx:=by
 have h:=qh6 (P:=Tryz.prog) (A:=eS) (t:=42) (g:=153) (cf:=fun a b=>q1g a b) (pre:=fun _=>[]) sortS Tryz.isAgg42 Tryz.sizeOf42 (by decide) (Go.Proofs.enters_of Tryz.func153 (by kernel_rfl) rfl) toS.swo qgg
 intro w F L xs g v0 vs h1 h2 h3 h4 h5 h6 h7
 refine h w F L xs g v0 vs h1 h2 h3 h4 (fun p hp=>?_) h6 h7
 simp only[List.mem_cons,List.not_mem_nil,or_false] at hp
 rcases hp with rfl | rfl | rfl
 ·exact h5 _ (List.mem_cons_self ..)
 ·exact fun x _ y _ k1 k2=>toS.anti x y k1 k2
 ·exact fun x _ y _ p hp=>by cases hp
end Go.Proofs.YthnojkbkojpadaaGreat.Su

namespace Go.Proofs.YthnojkbkojpadaaGreat.Su
noncomputable section
open Go.RowKit Go.Sx Go.Lp
theorem qdo:(fun g:cp1_G=>cp1_R g.1 g.2.1 g.2.2.1 g.2.2.2)=coF eS.dflt:=funext ql2
theorem qdm (xs:List S) (h:xs.length≤maxLen) (h2:¬ (xs.length:Int)<2):allP (coI eS.dflt ((xs.length,xs,1,false,0):CoG S)):=fun q hq=>by
 simp only[coI,List.mem_singleton] at hq
 subst hq
 refine ⟨trivial,h,Int.le_refl _,by show (1:Int)≤(xs.length:Int);omega,?_⟩
 match xs,h2 with
 | x :: r,_=>rfl
theorem qn3:FnMut Tryz.prog 154 42 eS DA.none RM.self (fun xs _=>(compL xs,(compL xs).length)) (fun _ _=>[]):=by
 have h:=qn2 (fun _ _=>[]) fun xs g _ hl _=>by
  unfold q5n q1u
  simp only[El.lst_els,El.ag_eq,El.okL_eq];rw[qdo]
  refine ⟨fun _ _ _=>trivial,fun hc=>?_⟩
  have hc:¬ (xs.length:Int)<2:=of_decide_eq_false hc
  have hI:=qdm xs hl hc
  refine ⟨fun _ _=>trivial,⟨trivial,(hI _ (List.mem_cons_self ..)).2⟩,fun he=>⟨fun _ _=>trivial,?_⟩,fun _ _ _=>trivial⟩
  rcases qp3 eS.dflt _ hI with ⟨h1,h2,h3,h4⟩ | ⟨h1,_⟩
  ·rw[h4]
  ·rw[h1] at he;cases he
 refine qcm h fun xs g _ hl _=>?_
 show cpt_F xs g=_
 unfold cpt_F q1u
 simp only[El.lst_els,El.ag_eq,El.okL_eq];rw[qdo]
 by_cases hc:(xs.length:Int)<2
 ·simp only[hc,decide_true,cond_true]
  rw[qgh (by omega)]
 ·simp only[hc,decide_false,cond_false]
  rcases qp3 eS.dflt _ (qdm xs hl hc) with ⟨h1,h2,h3,h4⟩ | ⟨h1,h2,h3,h4⟩
  ·rw[h1,h3,h4];rfl
  ·rw[h1,h3,h2]
   simp only at h4
   rw[h4];rfl
theorem z1v:q04 Tryz.prog 64 aLE dBool (fun g=>g.1.any (q2d · g.2)) (fun _=>[]):=by
 have h:=z1u (fun _=>[]) fun g _ _=>q2r g.1
 refine q0b h fun g hb _=>?_
 show has_F g.1 g.2=_
 unfold has_F
 simp only[El.lst_els,El.ag_eq,El.okL_eq]
 exact z1c g.1 g.2 hb.1.1
def qvj:PTab Tryz.prog:=tab21.cons 64 (pconP aLE dBool (fun g=>g.1.any (q2d · g.2)) (fun _=>[])) (q0d z1v puB)
def tab26:MTab Tryz.prog:=((MTab.of qvj).consM 152 (bconM 42 eS qlg (.pure qga) (fun xs _=>(srtBy (fun a b=>q1g a b) xs,())) qjx) (qdq qt2)).consM 154 (bconM 42 eS DA.none RM.self (fun xs _=>(compL xs,(compL xs).length)) (fun _ _=>[])) (qdq qn3)
end
end Go.Proofs.YthnojkbkojpadaaGreat.Su

namespace Go.Proofs.YthnojkbkojpadaaGreat.Su
noncomputable section
open Go.RowKit Go.Sx
set_option linter.unusedVariables false
abbrev la_G:Type:=List S×Int×Int×Unit×Int
def la_LP:LP 0 la_G:=.pair (.slot 0 9 dLS) (.pair (.slot 0 10 dI) (.pair (.slot 0 11 dI) (.pair (.fix 0 2 (.k (.slice none 0 0))) (.slot 0 3 dI))))
def la_R (xs:List S) (n:Int) (i:Int) (_u:Unit) (e:Int):Ex×la_G:=
 bif decide (i<n) then bif !may_F (xs.getD i.toNat eS.dflt) then (Ex.ret,eS.ag xs,n,i,(),(20:Int)) else (Ex.normal,eS.ag xs,n,IntKind.i64.wrap (i+(1:Int)),(),e)
 else (Ex.exit (0:Nat),eS.ag xs,n,i,(),e)
def qrq (xs:List S) (n:Int) (i:Int) (_u:Unit) (e:Int):Prop:=
 (decide (i<n)=true→((0:Int)≤i∧i<(↑xs.length:Int))∧((!may_F (xs.getD i.toNat eS.dflt))=true→eS.okL xs)∧((!may_F (xs.getD i.toNat eS.dflt))=false→eS.okL xs))∧(decide (i<n)=false→eS.okL xs)
theorem la_one:((q00 Tryz.prog 124).filter fun c=>Nat.beq (lkey c) 2).length=1:=by kernel_rfl
theorem la_es (g:la_G):(la_R g.1 g.2.1 g.2.2.1 g.2.2.2.1 g.2.2.2.2).1=.normal∨(la_R g.1 g.2.1 g.2.2.1 g.2.2.2.1 g.2.2.2.2).1∈([.ret,.exit 0]:List Ex):=by
 unfold la_R
 repeat' (first | (left;rfl) | (right;simp only[cond_true,cond_false];simp;done) | (rw[Bool.cond_eq_ite];split))
abbrev la_C (Inv:la_G→List Prop) (m:la_G→Nat):LCon:=loopR [.ret,.exit 0] (loopBody Tryz.prog 124 2) la_LP [] 54 Inv (fun g=>la_R g.1 g.2.1 g.2.2.1 g.2.2.2.1 g.2.2.2.2) m
theorem z16 (Inv:la_G→List Prop) (m:la_G→Nat) (hs:∀ g,allP (Inv g)→qrq g.1 g.2.1 g.2.2.1 g.2.2.2.1 g.2.2.2.2) (hg:Goes (fun g:la_G=>la_R g.1 g.2.1 g.2.2.1 g.2.2.2.1 g.2.2.2.2) m fun g=>allP (Inv g)):∀ b∈q00 Tryz.prog 124,lkey b=2→q02 Tryz.prog b (la_C Inv m).g:=q0g (Γ:=(MTab.gamz tab26 [] [])) (Λ:=noΛ) (MTab.okz tab26 [] []) q0o 100 124 2 54 la_LP [] Inv (fun g=>la_R g.1 g.2.1 g.2.2.1 g.2.2.2.1 g.2.2.2.2) (fun g=>qrq g.1 g.2.1 g.2.2.1 g.2.2.2.1 g.2.2.2.2) m default [.ret,.exit 0] la_one (fun rd T B HL HB ds g=>by kernel_rfl) (fun rd T B HL HB ds g=>by kernel_rfl) hs hg la_es
abbrev lb_G:Type:=List S×List S×List S×Int×Int×Unit×Int
def lb_LP:LP 0 lb_G:=.pair (.slot 0 0 dLS) (.pair (.row 0 6 42 eS) (.pair (.slot 0 19 dLS) (.pair (.slot 0 20 dI) (.pair (.slot 0 21 dI) (.pair (.fix 0 2 (.k (.slice none 0 0))) (.slot 0 3 dI))))))
def lb_R (xs:List S) (out:List S) (ys:List S) (n:Int) (i:Int) (_u:Unit) (e:Int):Ex×lb_G:=
 bif decide (i<n) then bif (ys.getD i.toNat eS.dflt).f != (xs.getD (0:Nat) eS.dflt).f||q2w (ys.getD i.toNat eS.dflt) != q2w (xs.getD (0:Nat) eS.dflt) then (Ex.ret,eS.ag xs,eS.ag out,eS.ag ys,n,i,(),(11:Int)) else bif !(eS.ag xs).any fun x=>q2d x (ys.getD i.toNat eS.dflt) then (Ex.normal,eS.ag xs,eS.lst (min (out.length+(1:Nat)) out.length) (eS.els out)++List.map (fun x=>ys.getD i.toNat eS.dflt) (List.range (out.length+(1:Nat) - out.length)),eS.ag ys,n,IntKind.i64.wrap (i+(1:Int)),(),e) else (Ex.normal,eS.ag xs,eS.ag out,eS.ag ys,n,IntKind.i64.wrap (i+(1:Int)),(),e)
 else (Ex.exit (2:Nat),eS.ag xs,eS.ag out,eS.ag ys,n,i,(),e)
def qhy (xs:List S) (out:List S) (ys:List S) (n:Int) (i:Int) (_u:Unit) (e:Int):Prop:=
 (decide (i<n)=true→((0:Int)≤i∧i<(↑ys.length:Int))∧((0:Int)≤(0:Int)∧(0:Int)<(↑xs.length:Int))∧((!(ys.getD i.toNat eS.dflt).f != (xs.getD (0:Nat) eS.dflt).f)=true→(0:Int)≤(0:Int)∧(0:Int)<(↑xs.length:Int))∧(((ys.getD i.toNat eS.dflt).f != (xs.getD (0:Nat) eS.dflt).f||q2w (ys.getD i.toNat eS.dflt) != q2w (xs.getD (0:Nat) eS.dflt))=true→eS.okL xs∧out.length≤out.length∧(∀ (e:Nat),e<out.length→True)∧eS.okL ys)∧(((ys.getD i.toNat eS.dflt).f != (xs.getD (0:Nat) eS.dflt).f||q2w (ys.getD i.toNat eS.dflt) != q2w (xs.getD (0:Nat) eS.dflt))=false→eS.okL xs∧((!(eS.ag xs).any fun x=>q2d x (ys.getD i.toNat eS.dflt))=true→(out.length≤out.length∧True∧out.length+(1:Nat)≤maxLen∧(out.length+(1:Nat)) * Tryz.prog.types[(42:Nat)].bytes≤(140737488355328:Nat))∧eS.okL xs∧out.length+(1:Nat)≤out.length+(1:Nat)∧(∀ (e:Nat),e<min (out.length+(1:Nat)) out.length→True)∧(∀ (e:Nat),e<out.length+(1:Nat) - out.length→True)∧eS.okL ys)∧((!(eS.ag xs).any fun x=>q2d x (ys.getD i.toNat eS.dflt))=false→eS.okL xs∧out.length≤out.length∧(∀ (e:Nat),e<out.length→True)∧eS.okL ys)))∧(decide (i<n)=false→eS.okL xs∧out.length≤out.length∧(∀ (e:Nat),e<out.length→True)∧eS.okL ys)
theorem lb_one:((q00 Tryz.prog 124).filter fun c=>Nat.beq (lkey c) 9).length=1:=by kernel_rfl
theorem lb_es (g:lb_G):(lb_R g.1 g.2.1 g.2.2.1 g.2.2.2.1 g.2.2.2.2.1 g.2.2.2.2.2.1 g.2.2.2.2.2.2).1=.normal∨(lb_R g.1 g.2.1 g.2.2.1 g.2.2.2.1 g.2.2.2.2.1 g.2.2.2.2.2.1 g.2.2.2.2.2.2).1∈([.ret,.exit 2]:List Ex):=by
 unfold lb_R
 repeat' (first | (left;rfl) | (right;simp only[cond_true,cond_false];simp;done) | (rw[Bool.cond_eq_ite];split))
abbrev lb_C (Inv:lb_G→List Prop) (m:lb_G→Nat):LCon:=loopR [.ret,.exit 2] (loopBody Tryz.prog 124 9) lb_LP [] 54 Inv (fun g=>lb_R g.1 g.2.1 g.2.2.1 g.2.2.2.1 g.2.2.2.2.1 g.2.2.2.2.2.1 g.2.2.2.2.2.2) m
theorem z0r (Inv:lb_G→List Prop) (m:lb_G→Nat) (hs:∀ g,allP (Inv g)→qhy g.1 g.2.1 g.2.2.1 g.2.2.2.1 g.2.2.2.2.1 g.2.2.2.2.2.1 g.2.2.2.2.2.2) (hg:Goes (fun g:lb_G=>lb_R g.1 g.2.1 g.2.2.1 g.2.2.2.1 g.2.2.2.2.1 g.2.2.2.2.2.1 g.2.2.2.2.2.2) m fun g=>allP (Inv g)):∀ b∈q00 Tryz.prog 124,lkey b=9→q02 Tryz.prog b (lb_C Inv m).g:=q0g (Γ:=(MTab.gamz tab26 [] [])) (Λ:=noΛ) (MTab.okz tab26 [] []) q0o 100 124 9 54 lb_LP [] Inv (fun g=>lb_R g.1 g.2.1 g.2.2.1 g.2.2.2.1 g.2.2.2.2.1 g.2.2.2.2.2.1 g.2.2.2.2.2.2) (fun g=>qhy g.1 g.2.1 g.2.2.1 g.2.2.2.1 g.2.2.2.2.1 g.2.2.2.2.2.1 g.2.2.2.2.2.2) m default [.ret,.exit 2] lb_one (fun rd T B HL HB ds g=>by kernel_rfl) (fun rd T B HL HB ds g=>by kernel_rfl) hs hg lb_es
end
end Go.Proofs.YthnojkbkojpadaaGreat.Su

namespace Go.Proofs.YthnojkbkojpadaaGreat.Su
noncomputable section
open Go.RowKit Go.Sx
set_option linter.unusedVariables false
abbrev rin_G:Type:=List S×Unit×S×List S×Bool×Int
def qwb:LP 1 rin_G:=.pair (.slot 1 0 dLS) (.pair (.fix 1 3 (.p 0 0)) (.pair (.obj 1 0 42 eS) (.pair (.row 1 5 42 eS) (.pair (.slot 1 6 dBool) (.slot 1 7 dI)))))
def rin_R (xs:List S) (_u:Unit) (s:S) (out:List S) (b:Bool) (i:Int):Ex×rin_G:=
 bif decide (i<(↑xs.length:Int)) then bif !(conj ([(xs.getD i.toNat eS.dflt).f==s.f]++([(xs.getD i.toNat eS.dflt).k==s.k]++([(xs.getD i.toNat eS.dflt).a==s.a]++([(xs.getD i.toNat eS.dflt).n==s.n]++([(xs.getD i.toNat eS.dflt).p0==s.p0]++([(xs.getD i.toNat eS.dflt).p1==s.p1]++([(xs.getD i.toNat eS.dflt).p2==s.p2]++([(xs.getD i.toNat eS.dflt).p3==s.p3]++[])))++[])))))||b)&&decide (q1j s (xs.getD i.toNat eS.dflt)<(0:Int)) then (Ex.normal,eS.ag xs,(),s,eS.lst (min (min (out.length+(1:Nat)+(1:Nat)) (out.length+(1:Nat))) out.length) (eS.els out)++List.map (fun x=>s) (List.range (min (out.length+(1:Nat)+(1:Nat)) (out.length+(1:Nat)) - out.length))++List.map (fun x=>xs.getD i.toNat eS.dflt) (List.range (out.length+(1:Nat)+(1:Nat) - (out.length+(1:Nat)))),true,IntKind.i64.wrap (i+(1:Int))) else (Ex.normal,eS.ag xs,(),s,eS.lst (min (out.length+(1:Nat)) out.length) (eS.els out)++List.map (fun x=>xs.getD i.toNat eS.dflt) (List.range (out.length+(1:Nat) - out.length)),conj ([(xs.getD i.toNat eS.dflt).f==s.f]++([(xs.getD i.toNat eS.dflt).k==s.k]++([(xs.getD i.toNat eS.dflt).a==s.a]++([(xs.getD i.toNat eS.dflt).n==s.n]++([(xs.getD i.toNat eS.dflt).p0==s.p0]++([(xs.getD i.toNat eS.dflt).p1==s.p1]++([(xs.getD i.toNat eS.dflt).p2==s.p2]++([(xs.getD i.toNat eS.dflt).p3==s.p3]++[])))++[])))))||b,IntKind.i64.wrap (i+(1:Int)))
 else (Ex.exit (0:Nat),eS.ag xs,(),s,eS.ag out,b,i)
def qap (xs:List S) (_u:Unit) (s:S) (out:List S) (b:Bool) (i:Int):Prop:=
 (decide (i<(↑xs.length:Int))=true→((0:Int)≤i∧i<(↑xs.length:Int))∧((!(conj ([(xs.getD i.toNat eS.dflt).f==s.f]++([(xs.getD i.toNat eS.dflt).k==s.k]++([(xs.getD i.toNat eS.dflt).a==s.a]++([(xs.getD i.toNat eS.dflt).n==s.n]++([(xs.getD i.toNat eS.dflt).p0==s.p0]++([(xs.getD i.toNat eS.dflt).p1==s.p1]++([(xs.getD i.toNat eS.dflt).p2==s.p2]++([(xs.getD i.toNat eS.dflt).p3==s.p3]++[])))++[])))))||b))=true→(0:Int)≤i∧i<(↑xs.length:Int))∧((!(conj ([(xs.getD i.toNat eS.dflt).f==s.f]++([(xs.getD i.toNat eS.dflt).k==s.k]++([(xs.getD i.toNat eS.dflt).a==s.a]++([(xs.getD i.toNat eS.dflt).n==s.n]++([(xs.getD i.toNat eS.dflt).p0==s.p0]++([(xs.getD i.toNat eS.dflt).p1==s.p1]++([(xs.getD i.toNat eS.dflt).p2==s.p2]++([(xs.getD i.toNat eS.dflt).p3==s.p3]++[])))++[])))))||b)&&decide (q1j s (xs.getD i.toNat eS.dflt)<(0:Int)))=true→(out.length≤out.length∧True∧out.length+(1:Nat)≤maxLen∧(out.length+(1:Nat)) * Tryz.prog.types[(42:Nat)].bytes≤(140737488355328:Nat))∧((0:Int)≤i∧i<(↑xs.length:Int))∧(out.length+(1:Nat)≤out.length+(1:Nat)∧True∧out.length+(1:Nat)+(1:Nat)≤maxLen∧(out.length+(1:Nat)+(1:Nat)) * Tryz.prog.types[(42:Nat)].bytes≤(140737488355328:Nat))∧eS.okL xs∧out.length+(1:Nat)+(1:Nat)≤out.length+(1:Nat)+(1:Nat)∧(∀ (e:Nat),e<min (min (out.length+(1:Nat)+(1:Nat)) (out.length+(1:Nat))) out.length→True)∧(∀ (e:Nat),e<min (out.length+(1:Nat)+(1:Nat)) (out.length+(1:Nat)) - out.length→True)∧∀ (e:Nat),e<out.length+(1:Nat)+(1:Nat) - (out.length+(1:Nat))→True)∧((!(conj ([(xs.getD i.toNat eS.dflt).f==s.f]++([(xs.getD i.toNat eS.dflt).k==s.k]++([(xs.getD i.toNat eS.dflt).a==s.a]++([(xs.getD i.toNat eS.dflt).n==s.n]++([(xs.getD i.toNat eS.dflt).p0==s.p0]++([(xs.getD i.toNat eS.dflt).p1==s.p1]++([(xs.getD i.toNat eS.dflt).p2==s.p2]++([(xs.getD i.toNat eS.dflt).p3==s.p3]++[])))++[])))))||b)&&decide (q1j s (xs.getD i.toNat eS.dflt)<(0:Int)))=false→((0:Int)≤i∧i<(↑xs.length:Int))∧(out.length≤out.length∧True∧out.length+(1:Nat)≤maxLen∧(out.length+(1:Nat)) * Tryz.prog.types[(42:Nat)].bytes≤(140737488355328:Nat))∧eS.okL xs∧out.length+(1:Nat)≤out.length+(1:Nat)∧(∀ (e:Nat),e<min (out.length+(1:Nat)) out.length→True)∧∀ (e:Nat),e<out.length+(1:Nat) - out.length→True))∧(decide (i<(↑xs.length:Int))=false→eS.okL xs∧out.length≤out.length∧∀ (e:Nat),e<out.length→True)
theorem z02:((q00 Tryz.prog 163).filter fun c=>Nat.beq (lkey c) 4).length=1:=by kernel_rfl
theorem rin_es (g:rin_G):(rin_R g.1 g.2.1 g.2.2.1 g.2.2.2.1 g.2.2.2.2.1 g.2.2.2.2.2).1=.normal∨(rin_R g.1 g.2.1 g.2.2.1 g.2.2.2.1 g.2.2.2.2.1 g.2.2.2.2.2).1∈([.exit 0]:List Ex):=by
 unfold rin_R
 repeat' (first | (left;rfl) | (right;simp only[cond_true,cond_false];simp;done) | (rw[Bool.cond_eq_ite];split))
abbrev rin_C (Inv:rin_G→List Prop) (m:rin_G→Nat):LCon:=loopR [.exit 0] (loopBody Tryz.prog 163 4) qwb [] 49 Inv (fun g=>rin_R g.1 g.2.1 g.2.2.1 g.2.2.2.1 g.2.2.2.2.1 g.2.2.2.2.2) m
theorem qtp (Inv:rin_G→List Prop) (m:rin_G→Nat) (hs:∀ g,allP (Inv g)→qap g.1 g.2.1 g.2.2.1 g.2.2.2.1 g.2.2.2.2.1 g.2.2.2.2.2) (hg:Goes (fun g:rin_G=>rin_R g.1 g.2.1 g.2.2.1 g.2.2.2.1 g.2.2.2.2.1 g.2.2.2.2.2) m fun g=>allP (Inv g)):∀ b∈q00 Tryz.prog 163,lkey b=4→q02 Tryz.prog b (rin_C Inv m).g:=q0g (Γ:=(MTab.gamz tab26 [] [])) (Λ:=noΛ) (MTab.okz tab26 [] []) q0o 100 163 4 49 qwb [] Inv (fun g=>rin_R g.1 g.2.1 g.2.2.1 g.2.2.2.1 g.2.2.2.2.1 g.2.2.2.2.2) (fun g=>qap g.1 g.2.1 g.2.2.1 g.2.2.2.1 g.2.2.2.2.1 g.2.2.2.2.2) m default [.exit 0] z02 (fun rd T B HL HB ds g=>by kernel_rfl) (fun rd T B HL HB ds g=>by kernel_rfl) hs hg rin_es
abbrev rla_G:Type:=List S×Int×Unit×Int
def qw9:LP 0 rla_G:=.pair (.slot 0 0 dLS) (.pair (.slot 0 4 dI) (.pair (.fix 0 2 (.k (.slice none 0 0))) (.slot 0 3 dI)))
def rla_R (xs:List S) (i:Int) (_u:Unit) (e:Int):Ex×rla_G:=
 bif decide (i<(↑xs.length:Int)) then bif q0x (xs.getD i.toNat eS.dflt) != (0:Int) then (Ex.ret,eS.ag xs,i,(),(20:Int)) else (Ex.normal,eS.ag xs,IntKind.i64.wrap (i+(1:Int)),(),e)
 else (Ex.exit (0:Nat),eS.ag xs,i,(),e)
def qnt (xs:List S) (i:Int) (_u:Unit) (e:Int):Prop:=
 (decide (i<(↑xs.length:Int))=true→((0:Int)≤i∧i<(↑xs.length:Int))∧((q0x (xs.getD i.toNat eS.dflt) != (0:Int))=true→eS.okL xs)∧((q0x (xs.getD i.toNat eS.dflt) != (0:Int))=false→eS.okL xs))∧(decide (i<(↑xs.length:Int))=false→eS.okL xs)
theorem z00:((q00 Tryz.prog 134).filter fun c=>Nat.beq (lkey c) 2).length=1:=by kernel_rfl
theorem rla_es (g:rla_G):(rla_R g.1 g.2.1 g.2.2.1 g.2.2.2).1=.normal∨(rla_R g.1 g.2.1 g.2.2.1 g.2.2.2).1∈([.ret,.exit 0]:List Ex):=by
 unfold rla_R
 repeat' (first | (left;rfl) | (right;simp only[cond_true,cond_false];simp;done) | (rw[Bool.cond_eq_ite];split))
abbrev rla_C (Inv:rla_G→List Prop) (m:rla_G→Nat):LCon:=loopR [.ret,.exit 0] (loopBody Tryz.prog 134 2) qw9 [] 83 Inv (fun g=>rla_R g.1 g.2.1 g.2.2.1 g.2.2.2) m
theorem qtm (Inv:rla_G→List Prop) (m:rla_G→Nat) (hs:∀ g,allP (Inv g)→qnt g.1 g.2.1 g.2.2.1 g.2.2.2) (hg:Goes (fun g:rla_G=>rla_R g.1 g.2.1 g.2.2.1 g.2.2.2) m fun g=>allP (Inv g)):∀ b∈q00 Tryz.prog 134,lkey b=2→q02 Tryz.prog b (rla_C Inv m).g:=q0g (Γ:=(MTab.gamz tab26 [] [])) (Λ:=noΛ) (MTab.okz tab26 [] []) q0o 100 134 2 83 qw9 [] Inv (fun g=>rla_R g.1 g.2.1 g.2.2.1 g.2.2.2) (fun g=>qnt g.1 g.2.1 g.2.2.1 g.2.2.2) m default [.ret,.exit 0] z00 (fun rd T B HL HB ds g=>by kernel_rfl) (fun rd T B HL HB ds g=>by kernel_rfl) hs hg rla_es
end
end Go.Proofs.YthnojkbkojpadaaGreat.Su

namespace Go.Proofs.YthnojkbkojpadaaGreat.Su
noncomputable section
open Go.RowKit Go.Sx Go.Lp
theorem qsq (h:42<Tryz.prog.types.size):(Tryz.prog.types[42]'h).bytes=64:=by kernel_rfl
theorem app1 (out:List S) (y:S):eS.lst (min (out.length+1) out.length) (eS.els out)++List.map (fun _=>y) (List.range (out.length+1 - out.length))=out++[y]:=by
 rw[Nat.min_eq_right (Nat.le_succ _),El.lst_els,Nat.add_sub_cancel_left];rfl
theorem app2 (out:List S) (s y:S):eS.lst (min (min (out.length+1+1) (out.length+1)) out.length) (eS.els out)++List.map (fun _=>s) (List.range (min (out.length+1+1) (out.length+1) - out.length))++List.map (fun _=>y) (List.range (out.length+1+1 - (out.length+1)))=(out++[s])++[y]:=by
 rw[Nat.min_eq_right (Nat.le_succ (out.length+1)),Nat.min_eq_right (Nat.le_succ _),El.lst_els,Nat.add_sub_cancel_left,Nat.add_sub_cancel_left];rfl
abbrev mayN (a:S):Bool:=!may_F a
theorem la_RF (g:la_G):la_R g.1 g.2.1 g.2.2.1 g.2.2.2.1 g.2.2.2.2=erF 0 eS.dflt mayN 20 g:=by
 obtain ⟨xs,n,i,⟨⟩,e⟩:=g
 show la_R xs n i () e=erF 0 eS.dflt mayN 20 (xs,n,i,(),e)
 unfold la_R
 simp only[El.lst_els,El.ag_eq,El.okL_eq]
 rfl
theorem la_ok:∀ b∈q00 Tryz.prog 124,lkey b=2→q02 Tryz.prog b (la_C erI erM).g:=by
 refine z16 erI erM (fun g hi=>?_) ?_
 ·obtain ⟨xs,n,i,⟨⟩,e⟩:=g
  obtain ⟨h1,h2,h3,h4⟩:=hi _ (List.mem_cons_self ..)
  simp only at h1 h2 h3 h4
  refine ⟨fun hc=>?_,fun _=>q2r xs⟩
  have hc:i<n:=of_decide_eq_true hc
  exact ⟨⟨h3,by simp only;omega⟩,fun _=>q2r xs,fun _=>q2r xs⟩
 ·rw[show (fun g:la_G=>la_R g.1 g.2.1 g.2.2.1 g.2.2.2.1 g.2.2.2.2)=erF 0 eS.dflt mayN 20 from funext la_RF]
  exact er_goes _ _ _ _
abbrev badS (xs:List S) (y:S):Bool:=y.f != (xs.getD 0 eS.dflt).f||q2w y != q2w (xs.getD 0 eS.dflt)
abbrev stepS (xs:List S) (out:List S) (y:S):List S:=bif !(xs.any fun x=>q2d x y) then out++[y] else out
theorem lb_RF (g:lb_G):lb_R g.1 g.2.1 g.2.2.1 g.2.2.2.1 g.2.2.2.2.1 g.2.2.2.2.2.1 g.2.2.2.2.2.2=flF 2 eS.dflt badS stepS 11 g:=by
 obtain ⟨xs,out,ys,n,i,⟨⟩,e⟩:=g
 show lb_R xs out ys n i () e=flF 2 eS.dflt badS stepS 11 (xs,out,ys,n,i,(),e)
 unfold lb_R flF stepS
 simp only[app1,El.lst_els,El.ag_eq,El.okL_eq]
 generalize (!xs.any fun x=>q2d x (ys.getD i.toNat eS.dflt))=c
 cases c <;> rfl
def okLen (K:Nat) (xs:List S) (out:List S) (i:Nat):Prop:=xs.length≤K∧out.length≤i
theorem q9m (K:Nat):∀ xs out i,i<xs.length→okLen K xs out i→okLen K xs (stepS xs out (xs.getD i eS.dflt)) (i+1):=by
 rintro xs out i _ ⟨h1,h2⟩
 refine ⟨h1,?_⟩
 unfold stepS
 generalize (!xs.any fun x=>q2d x (xs.getD i eS.dflt))=c
 cases c <;> simp <;> omega
def KS:Nat:=1000000
theorem lb_ok:∀ b∈q00 Tryz.prog 124,lkey b=9→q02 Tryz.prog b (lb_C (flI (okLen KS)) flM).g:=by
 refine z0r (flI (okLen KS)) flM (fun g hi=>?_) ?_
 ·obtain ⟨xs,out,ys,n,i,⟨⟩,e⟩:=g
  obtain ⟨h1,h0,h2,h3,h4,h5,h6⟩:=hi _ (List.mem_cons_self ..)
  simp only at h1 h0 h2 h3 h4 h5 h6
  subst h0
  unfold KS at h5
  show qhy ys out ys n i () e
  unfold qhy
  simp only[qsq]
  refine ⟨fun hc=>?_,fun _=>⟨q2r ys,Nat.le_refl _,fun _ _=>trivial,q2r ys⟩⟩
  have hc:i<n:=of_decide_eq_true hc
  refine ⟨⟨h3,by omega⟩,⟨by omega,by omega⟩,fun _=>⟨by omega,by omega⟩,fun _=>⟨q2r ys,Nat.le_refl _,fun _ _=>trivial,q2r ys⟩,fun _=>⟨q2r ys,fun _=>⟨⟨Nat.le_refl _,trivial,by unfold maxLen;omega,by omega⟩,q2r ys,Nat.le_refl _,fun _ _=>trivial,fun _ _=>trivial,q2r ys⟩,fun _=>⟨q2r ys,Nat.le_refl _,fun _ _=>trivial,q2r ys⟩⟩⟩
 ·rw[show (fun g:lb_G=>lb_R g.1 g.2.1 g.2.2.1 g.2.2.2.1 g.2.2.2.2.1 g.2.2.2.2.2.1 g.2.2.2.2.2.2)=flF 2 eS.dflt badS stepS 11 from funext lb_RF]
  exact fl_goes _ _ _ _ _ _ (q9m KS)
theorem qw8 (g:rla_G):rla_R g.1 g.2.1 g.2.2.1 g.2.2.2=er2F 0 eS.dflt (fun a=>q0x a != 0) 20 g:=by
 obtain ⟨xs,i,⟨⟩,e⟩:=g
 show rla_R xs i () e=er2F 0 eS.dflt (fun a=>q0x a != 0) 20 (xs,i,(),e)
 unfold rla_R
 simp only[El.lst_els,El.ag_eq,El.okL_eq]
 rfl
theorem qw7:∀ b∈q00 Tryz.prog 134,lkey b=2→q02 Tryz.prog b (rla_C er2I er2M).g:=by
 refine qtm er2I er2M (fun g hi=>?_) ?_
 ·obtain ⟨xs,i,⟨⟩,e⟩:=g
  obtain ⟨h2,h3,h4⟩:=hi _ (List.mem_cons_self ..)
  simp only at h2 h3 h4
  refine ⟨fun hc=>?_,fun _=>q2r xs⟩
  have hc:i<(xs.length:Int):=of_decide_eq_true hc
  exact ⟨⟨h3,by simp only;omega⟩,fun _=>q2r xs,fun _=>q2r xs⟩
 ·rw[show (fun g:rla_G=>rla_R g.1 g.2.1 g.2.2.1 g.2.2.2)=er2F 0 eS.dflt (fun a=>q0x a != 0) 20 from funext qw8]
  exact qov _ _ _ _
theorem qwa (g:rin_G):rin_R g.1 g.2.1 g.2.2.1 g.2.2.2.1 g.2.2.2.2.1 g.2.2.2.2.2=isF 0 eS.dflt (fun a b=>q1j a b) g:=by
 obtain ⟨xs,⟨⟩,s,out,b,i⟩:=g
 show rin_R xs () s out b i=isF 0 eS.dflt (fun a b=>q1j a b) (xs,(),s,out,b,i)
 unfold rin_R isF
 simp only[app1,app2,El.lst_els,El.ag_eq,El.okL_eq,qgf,eqS]
 generalize decide (xs.getD i.toNat eS.dflt=s)=c
 cases c <;> rfl
theorem rin_ok:∀ b∈q00 Tryz.prog 163,lkey b=4→q02 Tryz.prog b (rin_C (isI KS) isM).g:=by
 refine qtp (isI KS) isM (fun g hi=>?_) ?_
 ·obtain ⟨xs,⟨⟩,s,out,b,i⟩:=g
  obtain ⟨h2,h3,h4,h5⟩:=hi _ (List.mem_cons_self ..)
  simp only at h2 h3 h4 h5
  unfold KS at h2
  have h6:out.length≤1000002:=by cases b <;> simp only[cond_true,cond_false] at h5 <;> omega
  show qap xs () s out b i
  unfold qap
  simp only[qsq]
  have ha:=q2r xs
  refine ⟨fun hc=>?_,fun _=>?_⟩
  ·have hc:i<(xs.length:Int):=of_decide_eq_true hc
   repeat' (first | apply And.intro | exact ha | (intro h;skip))
   all_goals (first | trivial | omega | (unfold maxLen;omega))
  ·repeat' (first | apply And.intro | exact ha | (intro h;skip))
   all_goals (first | trivial | omega)
 ·rw[show (fun g:rin_G=>rin_R g.1 g.2.1 g.2.2.1 g.2.2.2.1 g.2.2.2.2.1 g.2.2.2.2.2)=isF 0 eS.dflt (fun a b=>q1j a b) from funext qwa]
  exact is_goes _ _ _ (by unfold KS;omega)
def lt27:LTab Tryz.prog:=(((LTab.nil.cons 124 2 (la_C erI erM) la_ok).cons 124 9 (lb_C (flI (okLen KS)) flM) lb_ok).cons 134 2 (rla_C er2I er2M) qw7).cons 163 4 (rin_C (isI KS) isM) rin_ok
abbrev lam27:Lam:=lt27.lam
theorem qoe:∀ f k L,lam27 f k=some L→∀ b∈q00 Tryz.prog f,lkey b=k→q02 Tryz.prog b L.g:=lt27.ok
end
end Go.Proofs.YthnojkbkojpadaaGreat.Su
