/- Chapter 4: the law MultAny. Printed by treegen.py. -/
import Derived.Test.YtiipneclghnfhaaZG1370b66b
import Derived.Test.YtiipneclghnfhaaZG07f48261
import Derived.Test.YtiipneclghnfhaaZG08070cfe
import Derived.Test.YtiipneclghnfhaaZG118dcac6
set_option linter.unusedVariables false
set_option linter.unusedSimpArgs false
set_option linter.constructorNameAsVariable false
set_option linter.all false

namespace Go.Proofs.Ytiipneclghnfhaa
open Go.RowKit Go.Sx
set_option maxRecDepth 100000
set_option linter.unusedVariables false
abbrev aLYII:DA (List Y×Int×Int):=.cons dLY (.cons (dInt .u8) (.one (dInt .u8)))
noncomputable def lny_q1 (xs:List Y) (c:Int) (r:Int):List Y×Int:=
 ofY (eY.ag (List.take (60:Nat) (eY.ag xs)))
noncomputable def lny_q2 (xs:List Y) (c:Int) (r:Int):Int:=
 (IntKind.i64.wrap r).tmod (↑(List.take (60:Nat) (eY.ag xs)).length:Int)
noncomputable def lny_q3 (xs:List Y) (c:Int) (r:Int):List
 Y:=
 eY.lst ((List.take (60:Nat) (eY.ag xs)).length - (lny_q2 xs c r).toNat) (shEl (lny_q2 xs c r).toNat (eY.els (List.take (60:Nat) (eY.ag xs))))
noncomputable def lny_q4 (xs:List Y) (c:Int) (r:Int):List Y:=
 eY.lst (min ((lny_q3 xs c r).length+(lny_q2 xs c r).toNat) (lny_q3 xs c r).length) (eY.els (lny_q3 xs c r))
noncomputable def lny_q5 (xs:List Y) (c:Int) (r:Int):List Y:=
 eY.lst ((lny_q3 xs c r).length+(lny_q2 xs c r).toNat - (lny_q3 xs c r).length) (eY.els (List.take (60:Nat) (eY.ag xs)))
noncomputable def lny_q6 (xs:List Y) (c:Int) (r:Int):List Y×Int:=
 ofY ((lny_q4 xs c r)++(lny_q5 xs c r))
noncomputable def lny_q7 (xs:List Y) (c:Int) (r:Int):Int:=
 (IntKind.i64.wrap c).tmod (IntKind.i64.wrap ((↑(List.take (60:Nat) (eY.ag xs)).length:Int)+(1:Int)))
noncomputable def lny_q8 (xs:List Y) (c:Int) (r:Int):List Y:=
 eY.lst (lny_q7 xs c r).toNat (eY.els (List.take (60:Nat) (eY.ag xs)))
noncomputable def lny_q9 (xs:List Y) (c:Int) (r:Int):List Y×Int:=
 ofY (lny_q8 xs c r)
noncomputable def lny_q10 (xs:List Y) (c:Int) (r:Int):List
 Y:=
 eY.lst (min ((lny_q9 xs c r).fst.length+((List.take (60:Nat) (eY.ag xs)).length - (lny_q7 xs c r).toNat)) (lny_q9 xs c r).fst.length) (eY.els (lny_q9 xs c r).fst)
noncomputable def lny_q11 (xs:List Y) (c:Int) (r:Int):List
 Y:=
 eY.lst ((lny_q9 xs c r).fst.length+((List.take (60:Nat) (eY.ag xs)).length - (lny_q7 xs c r).toNat) - (lny_q9 xs c r).fst.length) (shEl (lny_q7 xs c r).toNat (eY.els (List.take (60:Nat) (eY.ag xs))))
noncomputable def lny_q12 (xs:List Y) (c:Int) (r:Int):List Y×Int:=
 ofY ((lny_q10 xs c r)++(lny_q11 xs c r))
noncomputable def lny_F (xs:List Y) (c:Int) (r:Int):Dv.T dBool:=
 bif !true||((lny_q1 xs c r).snd != (0:Int)||(↑(List.take (60:Nat) (eY.ag xs)).length:Int)==(0:Int)) then true
 else bif (lny_q6 xs c r).snd != (0:Int)||!decide (eY.ag (lny_q1 xs c r).fst=eY.ag (lny_q6 xs c r).fst) then false else bif (lny_q9 xs c r).snd != (0:Int) then true else (lny_q12 xs c r).snd==(0:Int)&&decide (eY.ag (lny_q1 xs c r).fst=eY.ag (lny_q12 xs c r).fst)
def lny_side (xs:List Y) (c:Int) (r:Int):Prop:=
 eY.okL xs∧eY.okL (List.take (60:Nat) (eY.ag xs))∧(eY.ag (List.take (60:Nat) (eY.ag xs))).length≤KS∧((!true||((lny_q1 xs c r).snd != (0:Int)||(↑(List.take (60:Nat) (eY.ag xs)).length:Int)==(0:Int)))=false→(↑(List.take (60:Nat) (eY.ag xs)).length:Int)≠(0:Int)∧∀ (cs:List Nat),(cs.isEmpty=true→(List.take (60:Nat) (eY.ag xs)).length≤(List.take (60:Nat) (eY.ag xs)).length∧((0:Int)≤(lny_q2 xs c r)∧(lny_q2 xs c r)≤(↑(List.take (60:Nat) (eY.ag xs)).length:Int))∧(∀ (e:Nat),e<(List.take (60:Nat) (eY.ag xs)).length - (lny_q2 xs c r).toNat→eY.Ok (shEl (lny_q2 xs c r).toNat (eY.els (List.take (60:Nat) (eY.ag xs))) e))∧(lny_q3 xs c r).length≤KS∧((0:Int)≤(lny_q2 xs c r)∧(lny_q2 xs c r)≤(↑(List.take (60:Nat) (eY.ag xs)).length:Int))∧((lny_q3 xs c r).length≤(lny_q3 xs c r).length∧(∀ (e:Nat),e<(lny_q2 xs c r).toNat→(eY.els (List.take (60:Nat) (eY.ag xs)) e).all SV.one=true)∧(lny_q3 xs c r).length+(lny_q2 xs c r).toNat≤maxLen∧((lny_q3 xs c r).length+(lny_q2 xs c r).toNat) * Try.prog.types[(45:Nat)].bytes≤(140737488355328:Nat))∧(lny_q3 xs c r).length+(lny_q2 xs c r).toNat≤(lny_q3 xs c r).length+(lny_q2 xs c r).toNat∧(∀ (e:Nat),e<min ((lny_q3 xs c r).length+(lny_q2 xs c r).toNat) (lny_q3 xs c r).length→True)∧(∀ (e:Nat),e<(lny_q3 xs c r).length+(lny_q2 xs c r).toNat - (lny_q3 xs c r).length→True)∧((lny_q4 xs c r)++(lny_q5 xs c r)).length≤KS∧((!(lny_q6 xs c r).snd != (0:Int))=true→(lny_q1 xs c r).fst.length≤(lny_q1 xs c r).fst.length)∧((!(lny_q6 xs c r).snd != (0:Int))=true→(lny_q6 xs c r).fst.length≤(lny_q6 xs c r).fst.length)∧((!(lny_q6 xs c r).snd != (0:Int))=true→∀ (e:Nat),e<(lny_q1 xs c r).fst.length→eY.Ok ((ElE.fn (eY.els (lny_q1 xs c r).fst)).at e))∧((!(lny_q6 xs c r).snd != (0:Int))=true→∀ (e:Nat),e<(lny_q6 xs c r).fst.length→eY.Ok ((ElE.fn (eY.els (lny_q6 xs c r).fst)).at e))∧(((lny_q6 xs c r).snd != (0:Int)||!decide (eY.ag (lny_q1 xs c r).fst=eY.ag (lny_q6 xs c r).fst))=true→∀ (d:Bool),false=bif (lny_q6 xs c r).snd != (0:Int)||!decide (eY.ag (lny_q1 xs c r).fst=eY.ag (lny_q6 xs c r).fst) then false else bif (lny_q9 xs c r).snd != (0:Int) then true else (lny_q12 xs c r).snd==(0:Int)&&decide (eY.ag (lny_q1 xs c r).fst=eY.ag (lny_q12 xs c r).fst))∧(((lny_q6 xs c r).snd != (0:Int)||!decide (eY.ag (lny_q1 xs c r).fst=eY.ag (lny_q6 xs c r).fst))=false→IntKind.i64.wrap ((↑(List.take (60:Nat) (eY.ag xs)).length:Int)+(1:Int))≠(0:Int)∧((0:Int)≤(lny_q7 xs c r)∧(lny_q7 xs c r)≤(↑(List.take (60:Nat) (eY.ag xs)).length:Int))∧(∀ (e:Nat),e<(lny_q7 xs c r).toNat→eY.Ok (eY.els (List.take (60:Nat) (eY.ag xs)) e))∧(lny_q8 xs c r).length≤KS∧(((lny_q9 xs c r).snd != (0:Int))=true→∀ (d:Bool),true=bif (lny_q6 xs c r).snd != (0:Int)||!decide (eY.ag (lny_q1 xs c r).fst=eY.ag (lny_q6 xs c r).fst) then false else bif (lny_q9 xs c r).snd != (0:Int) then true else (lny_q12 xs c r).snd==(0:Int)&&decide (eY.ag (lny_q1 xs c r).fst=eY.ag (lny_q12 xs c r).fst))∧(((lny_q9 xs c r).snd != (0:Int))=false→(List.take (60:Nat) (eY.ag xs)).length≤(List.take (60:Nat) (eY.ag xs)).length∧((0:Int)≤(lny_q7 xs c r)∧(lny_q7 xs c r)≤(↑(List.take (60:Nat) (eY.ag xs)).length:Int))∧((lny_q9 xs c r).fst.length≤(lny_q9 xs c r).fst.length∧(∀ (e:Nat),e<(List.take (60:Nat) (eY.ag xs)).length - (lny_q7 xs c r).toNat→(shEl (lny_q7 xs c r).toNat (eY.els (List.take (60:Nat) (eY.ag xs))) e).all SV.one=true)∧(lny_q9 xs c r).fst.length+((List.take (60:Nat) (eY.ag xs)).length - (lny_q7 xs c r).toNat)≤maxLen∧((lny_q9 xs c r).fst.length+((List.take (60:Nat) (eY.ag xs)).length - (lny_q7 xs c r).toNat)) * Try.prog.types[(45:Nat)].bytes≤(140737488355328:Nat))∧(lny_q9 xs c r).fst.length+((List.take (60:Nat) (eY.ag xs)).length - (lny_q7 xs c r).toNat)≤(lny_q9 xs c r).fst.length+((List.take (60:Nat) (eY.ag xs)).length - (lny_q7 xs c r).toNat)∧(∀ (e:Nat),e<min ((lny_q9 xs c r).fst.length+((List.take (60:Nat) (eY.ag xs)).length - (lny_q7 xs c r).toNat)) (lny_q9 xs c r).fst.length→True)∧(∀ (e:Nat),e<(lny_q9 xs c r).fst.length+((List.take (60:Nat) (eY.ag xs)).length - (lny_q7 xs c r).toNat) - (lny_q9 xs c r).fst.length→True)∧((lny_q10 xs c r)++(lny_q11 xs c r)).length≤KS∧(((lny_q12 xs c r).snd==(0:Int))=true→(lny_q1 xs c r).fst.length≤(lny_q1 xs c r).fst.length)∧(((lny_q12 xs c r).snd==(0:Int))=true→(lny_q12 xs c r).fst.length≤(lny_q12 xs c r).fst.length)∧(((lny_q12 xs c r).snd==(0:Int))=true→∀ (e:Nat),e<(lny_q1 xs c r).fst.length→eY.Ok ((ElE.fn (eY.els (lny_q1 xs c r).fst)).at e))∧(((lny_q12 xs c r).snd==(0:Int))=true→∀ (e:Nat),e<(lny_q12 xs c r).fst.length→eY.Ok ((ElE.fn (eY.els (lny_q12 xs c r).fst)).at e))∧∀ (d:Bool),((lny_q12 xs c r).snd==(0:Int)&&decide (eY.ag (lny_q1 xs c r).fst=eY.ag (lny_q12 xs c r).fst))=bif (lny_q6 xs c r).snd != (0:Int)||!decide (eY.ag (lny_q1 xs c r).fst=eY.ag (lny_q6 xs c r).fst) then false else bif (lny_q9 xs c r).snd != (0:Int) then true else (lny_q12 xs c r).snd==(0:Int)&&decide (eY.ag (lny_q1 xs c r).fst=eY.ag (lny_q12 xs c r).fst))))∧(cs.isEmpty=false→(List.take (60:Nat) (eY.ag xs)).length≤(List.take (60:Nat) (eY.ag xs)).length∧((0:Int)≤(lny_q2 xs c r)∧(lny_q2 xs c r)≤(↑(List.take (60:Nat) (eY.ag xs)).length:Int))∧((0:Int)≤(lny_q2 xs c r)∧(lny_q2 xs c r)≤(↑(List.take (60:Nat) (eY.ag xs)).length:Int))∧(∀ (e:Nat),e<(List.take (60:Nat) (eY.ag xs)).length - (lny_q2 xs c r).toNat→eY.Ok (shEl (lny_q2 xs c r).toNat (eY.els (List.take (60:Nat) (eY.ag xs))) e))∧(lny_q3 xs c r).length≤KS∧((lny_q3 xs c r).length≤(lny_q3 xs c r).length∧(∀ (e:Nat),e<(lny_q2 xs c r).toNat→(eY.els (List.take (60:Nat) (eY.ag xs)) e).all SV.one=true)∧(lny_q3 xs c r).length+(lny_q2 xs c r).toNat≤maxLen∧((lny_q3 xs c r).length+(lny_q2 xs c r).toNat) * Try.prog.types[(45:Nat)].bytes≤(140737488355328:Nat))∧(lny_q3 xs c r).length+(lny_q2 xs c r).toNat≤(lny_q3 xs c r).length+(lny_q2 xs c r).toNat∧(∀ (e:Nat),e<min ((lny_q3 xs c r).length+(lny_q2 xs c r).toNat) (lny_q3 xs c r).length→True)∧(∀ (e:Nat),e<(lny_q3 xs c r).length+(lny_q2 xs c r).toNat - (lny_q3 xs c r).length→True)∧((lny_q4 xs c r)++(lny_q5 xs c r)).length≤KS∧((!(lny_q6 xs c r).snd != (0:Int))=true→(lny_q1 xs c r).fst.length≤(lny_q1 xs c r).fst.length)∧((!(lny_q6 xs c r).snd != (0:Int))=true→(lny_q6 xs c r).fst.length≤(lny_q6 xs c r).fst.length)∧((!(lny_q6 xs c r).snd != (0:Int))=true→∀ (e:Nat),e<(lny_q1 xs c r).fst.length→eY.Ok ((ElE.fn (eY.els (lny_q1 xs c r).fst)).at e))∧((!(lny_q6 xs c r).snd != (0:Int))=true→∀ (e:Nat),e<(lny_q6 xs c r).fst.length→eY.Ok ((ElE.fn (eY.els (lny_q6 xs c r).fst)).at e))∧(((lny_q6 xs c r).snd != (0:Int)||!decide (eY.ag (lny_q1 xs c r).fst=eY.ag (lny_q6 xs c r).fst))=true→∀ (d:Bool),false=bif (lny_q6 xs c r).snd != (0:Int)||!decide (eY.ag (lny_q1 xs c r).fst=eY.ag (lny_q6 xs c r).fst) then false else bif (lny_q9 xs c r).snd != (0:Int) then true else (lny_q12 xs c r).snd==(0:Int)&&decide (eY.ag (lny_q1 xs c r).fst=eY.ag (lny_q12 xs c r).fst))∧(((lny_q6 xs c r).snd != (0:Int)||!decide (eY.ag (lny_q1 xs c r).fst=eY.ag (lny_q6 xs c r).fst))=false→IntKind.i64.wrap ((↑(List.take (60:Nat) (eY.ag xs)).length:Int)+(1:Int))≠(0:Int)∧((0:Int)≤(lny_q7 xs c r)∧(lny_q7 xs c r)≤(↑(List.take (60:Nat) (eY.ag xs)).length:Int))∧(∀ (e:Nat),e<(lny_q7 xs c r).toNat→eY.Ok (eY.els (List.take (60:Nat) (eY.ag xs)) e))∧(lny_q8 xs c r).length≤KS∧(((lny_q9 xs c r).snd != (0:Int))=true→∀ (d:Bool),true=bif (lny_q6 xs c r).snd != (0:Int)||!decide (eY.ag (lny_q1 xs c r).fst=eY.ag (lny_q6 xs c r).fst) then false else bif (lny_q9 xs c r).snd != (0:Int) then true else (lny_q12 xs c r).snd==(0:Int)&&decide (eY.ag (lny_q1 xs c r).fst=eY.ag (lny_q12 xs c r).fst))∧(((lny_q9 xs c r).snd != (0:Int))=false→(List.take (60:Nat) (eY.ag xs)).length≤(List.take (60:Nat) (eY.ag xs)).length∧((0:Int)≤(lny_q7 xs c r)∧(lny_q7 xs c r)≤(↑(List.take (60:Nat) (eY.ag xs)).length:Int))∧((lny_q9 xs c r).fst.length≤(lny_q9 xs c r).fst.length∧(∀ (e:Nat),e<(List.take (60:Nat) (eY.ag xs)).length - (lny_q7 xs c r).toNat→(shEl (lny_q7 xs c r).toNat (eY.els (List.take (60:Nat) (eY.ag xs))) e).all SV.one=true)∧(lny_q9 xs c r).fst.length+((List.take (60:Nat) (eY.ag xs)).length - (lny_q7 xs c r).toNat)≤maxLen∧((lny_q9 xs c r).fst.length+((List.take (60:Nat) (eY.ag xs)).length - (lny_q7 xs c r).toNat)) * Try.prog.types[(45:Nat)].bytes≤(140737488355328:Nat))∧(lny_q9 xs c r).fst.length+((List.take (60:Nat) (eY.ag xs)).length - (lny_q7 xs c r).toNat)≤(lny_q9 xs c r).fst.length+((List.take (60:Nat) (eY.ag xs)).length - (lny_q7 xs c r).toNat)∧(∀ (e:Nat),e<min ((lny_q9 xs c r).fst.length+((List.take (60:Nat) (eY.ag xs)).length - (lny_q7 xs c r).toNat)) (lny_q9 xs c r).fst.length→True)∧(∀ (e:Nat),e<(lny_q9 xs c r).fst.length+((List.take (60:Nat) (eY.ag xs)).length - (lny_q7 xs c r).toNat) - (lny_q9 xs c r).fst.length→True)∧((lny_q10 xs c r)++(lny_q11 xs c r)).length≤KS∧(((lny_q12 xs c r).snd==(0:Int))=true→(lny_q1 xs c r).fst.length≤(lny_q1 xs c r).fst.length)∧(((lny_q12 xs c r).snd==(0:Int))=true→(lny_q12 xs c r).fst.length≤(lny_q12 xs c r).fst.length)∧(((lny_q12 xs c r).snd==(0:Int))=true→∀ (e:Nat),e<(lny_q1 xs c r).fst.length→eY.Ok ((ElE.fn (eY.els (lny_q1 xs c r).fst)).at e))∧(((lny_q12 xs c r).snd==(0:Int))=true→∀ (e:Nat),e<(lny_q12 xs c r).fst.length→eY.Ok ((ElE.fn (eY.els (lny_q12 xs c r).fst)).at e))∧∀ (d:Bool),((lny_q12 xs c r).snd==(0:Int)&&decide (eY.ag (lny_q1 xs c r).fst=eY.ag (lny_q12 xs c r).fst))=bif (lny_q6 xs c r).snd != (0:Int)||!decide (eY.ag (lny_q1 xs c r).fst=eY.ag (lny_q6 xs c r).fst) then false else bif (lny_q9 xs c r).snd != (0:Int) then true else (lny_q12 xs c r).snd==(0:Int)&&decide (eY.ag (lny_q1 xs c r).fst=eY.ag (lny_q12 xs c r).fst)))))
theorem lny_okS (pre:DA.T aLYII→List Prop) (h:∀ g,DA.bd aLYII g→(∀ p∈pre g,p)→lny_side g.1 g.2.1 g.2.2):FnPure Try.prog 5 aLYII dBool (fun g=>lny_F g.1 g.2.1 g.2.2) pre:=pure_of_sideS (Γ:=(MTab.gamz tabU41 [] [])) (Λ:=noΛ) (MTab.okz tabU41 [] []) noΛ_ok 100 default (fun g=>lny_side g.1 g.2.1 g.2.2) (fun g=>by kernel_rfl) (fun g=>by kernel_rfl) h
end Go.Proofs.Ytiipneclghnfhaa

namespace Go.Proofs.Ytiipneclghnfhaa
open Go.RowKit Go.Sx Go.Lp
theorem u8_of {n:Int} (h:(Lit.int .u8 n).wf=true):0≤n∧n<256:=by
 have e1:IntKind.u8.min=0:=rfl
 have e2:IntKind.u8.max=255:=rfl
 simp[Lit.wf] at h
 omega
theorem drop_lst (xs:List Y) (k:Nat) (h:k≤xs.length):eY.lst (xs.length - k) (shEl k (eY.els xs))=xs.drop k:=by
 rw[eY.lst_sh k (xs.length - k) xs (by omega),List.take_of_length_le (by rw[List.length_drop];exact Nat.le_refl _)]
theorem any_rot {l:List Y} (k:Nat) (h:(ofY l).2=0):ofY (l.drop k++l.take k)=ofY l:=by
 obtain ⟨h1,h2,h3,h4⟩:=of_inv h
 have hs:∀ t,sumY (l.drop k++l.take k) t=sumY l t:=fun t=>by
  have e:sumY l t=sumY (l.take k++l.drop k) t:=by rw[List.take_append_drop]
  rw[e,sum_app,sum_app,Int.add_comm]
 rw[of_of (okTs_app (fun v hv=>h1 v (List.mem_of_mem_drop hv)) fun v hv=>h1 v (List.mem_of_mem_take hv)) (okNs_app (fun v hv=>h2 v (List.mem_of_mem_drop hv)) fun v hv=>h2 v (List.mem_of_mem_take hv)) (fun t=>by rw[hs];exact h3 t),nz_ext hs,h4]
theorem any_cut {l:List Y} (hm:l.length≤KS) (k:Nat) (h:(ofY l).2=0) (hc:(ofY (l.take k)).2=0):ofY ((ofY (l.take k)).1++l.drop k)=ofY l:=by
 obtain ⟨h1,h2,h3,h4⟩:=of_inv h
 obtain ⟨c1,c2,c3,c4⟩:=of_inv hc
 rw[c4]
 show ofY (nzY (l.take k)++l.drop k)=_
 have hl:(l.take k).length≤KS:=Nat.le_trans (List.length_take_le' _ _) hm
 have hk:=nz_chk hl c1 c3
 obtain ⟨t1,t2,_,_,_⟩:=chk_all (Nat.le_trans (nz_len _) hl) hk
 have hs:∀ t,sumY (nzY (l.take k)++l.drop k) t=sumY l t:=fun t=>by
  have e:sumY l t=sumY (l.take k++l.drop k) t:=by rw[List.take_append_drop]
  rw[e,sum_app,sum_app,nz_sum]
 rw[of_of (okTs_app t1 fun v hv=>h1 v (List.mem_of_mem_drop hv)) (okNs_app t2 fun v hv=>h2 v (List.mem_of_mem_drop hv)) (fun t=>by rw[hs];exact h3 t),nz_ext hs,h4]
structure LnyQ (xs:List Y) (c r:Int) (k m:Nat):Prop where
 hk:k≤(xs.take 60).length
 hm:m≤(xs.take 60).length
 q1:lny_q1 xs c r=ofY (xs.take 60)
 q2:lny_q2 xs c r=k
 q3:lny_q3 xs c r=(xs.take 60).drop k
 q4:lny_q4 xs c r=(xs.take 60).drop k
 q5:lny_q5 xs c r=(xs.take 60).take k
 q6:lny_q6 xs c r=ofY ((xs.take 60).drop k++(xs.take 60).take k)
 q7:lny_q7 xs c r=m
 q8:lny_q8 xs c r=(xs.take 60).take m
 q9:lny_q9 xs c r=ofY ((xs.take 60).take m)
 q10:lny_q10 xs c r=(ofY ((xs.take 60).take m)).1
 q11:lny_q11 xs c r=(xs.take 60).drop m
 q12:lny_q12 xs c r=ofY ((ofY ((xs.take 60).take m)).1++(xs.take 60).drop m)
theorem lny_qs (xs:List Y) (c r:Int) (hc:0≤c∧c<256) (hr:0≤r∧r<256) (hn:(xs.take 60).length≠0):∃ k m,LnyQ xs c r k m:=by
 have l1:=s60 xs
 have w:∀ x:Int,0≤x∧x<256→IntKind.i64.wrap x=x:=fun x hx=>wrS (by omega)
 generalize hl:xs.take 60=l at *
 have hr2:r.tmod l.length=((r.tmod l.length).toNat:Int):=by
  rw[Int.tmod_eq_emod_of_nonneg hr.1]
  have:=Int.emod_nonneg r (show (l.length:Int)≠0 by omega)
  omega
 have hr3:r.tmod l.length<l.length:=by
  rw[Int.tmod_eq_emod_of_nonneg hr.1]
  exact Int.emod_lt_of_pos r (by omega)
 have hc2:c.tmod (l.length+1)=((c.tmod (l.length+1)).toNat:Int):=by
  rw[Int.tmod_eq_emod_of_nonneg hc.1]
  have:=Int.emod_nonneg c (show ((l.length:Int)+1)≠0 by omega)
  omega
 have hc3:c.tmod (l.length+1)<l.length+1:=by
  rw[Int.tmod_eq_emod_of_nonneg hc.1]
  exact Int.emod_lt_of_pos c (by omega)
 generalize hkk:(r.tmod l.length).toNat=k at hr2
 generalize hmm:(c.tmod (l.length+1)).toNat=m at hc2
 have e1:lny_q1 xs c r=ofY l:=by unfold lny_q1;simp only[El.ag_eq,hl]
 have e2:lny_q2 xs c r=k:=by unfold lny_q2;simp only[El.ag_eq,hl,w r hr];exact hr2
 have e3:lny_q3 xs c r=l.drop k:=by unfold lny_q3;simp only[El.ag_eq,hl,e2,Int.toNat_natCast];exact drop_lst l k (by omega)
 have e4:lny_q4 xs c r=l.drop k:=by
  unfold lny_q4
  rw[e3,e2,Int.toNat_natCast,Nat.min_eq_right (by omega),eY.lst_els]
 have e5:lny_q5 xs c r=l.take k:=by
  unfold lny_q5
  simp only[El.ag_eq,hl,e3,e2,Int.toNat_natCast,Nat.add_sub_cancel_left]
  exact eY.lst_take k l (by omega)
 have e6:lny_q6 xs c r=ofY (l.drop k++l.take k):=by unfold lny_q6;rw[e4,e5]
 have e7:lny_q7 xs c r=m:=by
  unfold lny_q7
  simp only[El.ag_eq,hl,w c hc]
  rw[wrS (by omega)];exact hc2
 have e8:lny_q8 xs c r=l.take m:=by
  unfold lny_q8
  simp only[El.ag_eq,hl,e7,Int.toNat_natCast]
  exact eY.lst_take m l (by omega)
 have e9:lny_q9 xs c r=ofY (l.take m):=by unfold lny_q9;rw[e8]
 have e10:lny_q10 xs c r=(ofY (l.take m)).1:=by
  unfold lny_q10
  rw[e9,Nat.min_eq_right (by omega),eY.lst_els]
 have e11:lny_q11 xs c r=l.drop m:=by
  unfold lny_q11
  simp only[El.ag_eq,hl,e7,Int.toNat_natCast,Nat.add_sub_cancel_left]
  exact drop_lst l m (by omega)
 have e12:lny_q12 xs c r=ofY ((ofY (l.take m)).1++l.drop m):=by unfold lny_q12;rw[e10,e11]
 exact ⟨k,m,by rw[hl];omega,by rw[hl];omega,by rw[hl];exact e1,e2,by rw[hl];exact e3,by rw[hl];exact e4,by rw[hl];exact e5,by rw[hl];exact e6,e7,by rw[hl];exact e8,by rw[hl];exact e9,by rw[hl];exact e10,by rw[hl];exact e11,by rw[hl];exact e12⟩
theorem lny_eq (xs:List Y) (c r:Int) (hc:0≤c∧c<256) (hr:0≤r∧r<256):lny_F xs c r=true:=by
 simp only[lny_F,El.ag_eq,Bool.not_true,Bool.false_or]
 cases h0:((lny_q1 xs c r).snd != (0:Int)||(((xs.take 60).length:Nat):Int)==(0:Int)) with
 | true=>rfl
 | false=>
  rw[Bool.or_eq_false_iff] at h0
  have hn:(xs.take 60).length≠0:=fun h=>by rw[h] at h0;exact absurd h0.2 (by decide)
  obtain ⟨k,m,q⟩:=lny_qs xs c r hc hr hn
  have h1:(ofY (xs.take 60)).2=0:=by rw[← q.q1];exact bne0 h0.1
  rw[q.q6,any_rot k h1,q.q1,h1,q.q9,q.q12]
  cases h2:((ofY ((xs.take 60).take m)).2 != (0:Int)) with
  | true=>simp
  | false=>rw[any_cut (k60 (s60 xs)) m h1 (bne0 h2),h1];simp
end Go.Proofs.Ytiipneclghnfhaa

namespace Go.Proofs.Ytiipneclghnfhaa
open Go.RowKit Go.Sx Go.Lp
theorem lny_si (xs:List Y) (c r:Int) (hc:0≤c∧c<256) (hr:0≤r∧r<256):lny_side xs c r:=by
 have l1:=s60 xs
 have kk:KS=1000000:=rfl
 simp only[lny_side,El.okL_eq,El.ag_eq,true_and,Bool.not_true,Bool.false_or]
 refine ⟨k60 l1,fun h0=>?_⟩
 rw[Bool.or_eq_false_iff] at h0
 have hn:(xs.take 60).length≠0:=fun h=>by rw[h] at h0;exact absurd h0.2 (by decide)
 obtain ⟨k,m,q⟩:=lny_qs xs c r hc hr hn
 have h1:(ofY (xs.take 60)).2=0:=by rw[← q.q1];exact bne0 h0.1
 have hk:=q.hk
 have hm:=q.hm
 have a1:=of_len ((xs.take 60).take m)
 have a2:((xs.take 60).take m).length≤(xs.take 60).length:=List.length_take_le' _ _
 have ho:∀ (l:List Y) (e:Nat),eY.Ok (eY.els l e):=fun l e=>eY.ok_els l e
 have ho2:∀ (l:List Y) (o e:Nat),eY.Ok (shEl o (eY.els l) e):=fun l o e=>eY.ok_els l (o+e)
 have ho3:∀ (l:List Y) (e:Nat),eY.Ok ((ElE.fn (eY.els l)).at e):=fun l e=>eY.ok_els l e
 have hn1:∀ (l:List Y) (e:Nat),(eY.els l e).all SV.one=true:=fun l e=>onesY l e
 have hn2:∀ (l:List Y) (o e:Nat),(shEl o (eY.els l) e).all SV.one=true:=fun l o e=>onesY l (o+e)
 have ml:1000000≤maxLen:=by unfold maxLen;decide
 have hw:IntKind.i64.wrap ((((xs.take 60).length:Nat):Int)+1)≠0:=by rw[wrS (by omega)];omega
 simp only[q.q1,q.q2,q.q3,q.q4,q.q5,q.q6,q.q7,q.q8,q.q9,q.q10,q.q11,any_rot k h1,h1,Int.toNat_natCast,ho,ho2,ho3,hn1,hn2,bytesY,List.length_append,List.length_drop,List.length_take,Nat.le_refl,implies_true,true_and,and_true]
 rw[List.length_take] at l1 hn hk hm a2 hw
 simp only[List.length_take] at a1 a2
 generalize ((lny_q12 xs c r).snd==0&&decide ((ofY (xs.take 60)).fst=(lny_q12 xs c r).fst))=B
 generalize (ofY ((xs.take 60).take m)).2=s
 generalize (ofY ((xs.take 60).take m)).1.length=p at *
 generalize min 60 xs.length=n at *
 have e0:((0:Int) != 0||!decide True)=false:=rfl
 simp only[e0,cond_false,Bool.false_eq_true,false_implies,true_implies,true_and]
 cases hs:(s != (0:Int)) <;> simp only[cond_false,cond_true,Bool.false_eq_true,reduceCtorEq,false_implies,true_implies,implies_true,true_and,and_true]
 all_goals
  refine ⟨by omega,fun cs=>⟨fun _=>?_,fun _=>?_⟩⟩
  all_goals
   repeat' (first | exact hw | apply And.intro | intro _)
   all_goals (first | omega | exact hw | rfl | trivial)
theorem lny_ok:FnPure Try.prog 5 aLYII dBool (fun _=>true) (fun g=>[0≤g.2.1∧g.2.1<256,0≤g.2.2∧g.2.2<256]):=
 pure_congr (lny_okS _ fun g _ hp=>lny_si _ _ _ (hp _ (List.mem_cons_self ..)) (hp _ (List.mem_cons_of_mem _ (List.mem_cons_self ..)))) fun g _ hp=>lny_eq _ _ _ (hp _ (List.mem_cons_self ..)) (hp _ (List.mem_cons_of_mem _ (List.mem_cons_self ..)))
end Go.Proofs.Ytiipneclghnfhaa

namespace Go.Proofs.Ytiipneclghnfhaa
open Go.RowKit Go.Sx
def W1 (n:Int):Prop:=(Lit.int .i64 n).wf=true
def W4 (a:I4):Prop:=W1 a.1∧W1 a.2.1∧W1 a.2.2.1∧W1 a.2.2.2
def W6 (a:I6):Prop:=W1 a.1∧W1 a.2.1∧W4 a.2.2
def W8 (a:I8):Prop:=W1 a.1∧W1 a.2.1∧W1 a.2.2.1∧W1 a.2.2.2.1∧W4 a.2.2.2.2
def S.W (s:S):Prop:=W8 s.toP
def T.W (t:T):Prop:=W6 t.toP
theorem rd2:Rd Try.prog 2 eI W1:=rd_int Try.underlying2
theorem rd3:Rd Try.prog 3 eI W1:=rd_int Try.underlying3
theorem rd28:Rd Try.prog 28 e4 W4:=rd_array (ts:=[2,2,2,2]) Try.underlying28 rfl (by kernel_rfl) (rds_cons rd2 (rds_cons rd2 (rds_cons rd2 (rds_one rd2))))
theorem rd30:Rd Try.prog 30 eT T.W:=rd_iso (Q:=W6) (rd_struct (ts:=[2,3,28]) Try.underlying30 rfl (by kernel_rfl) (rds_cons rd2 (rds_cons rd3 (rds_one rd28)))) _ _ _ _
end Go.Proofs.Ytiipneclghnfhaa

namespace Go.Proofs.Ytiipneclghnfhaa
open Go.RowKit Go.Sx
abbrev W7 (a:T×Int):Prop:=T.W a.1∧W1 a.2
def Y.W (y:Y):Prop:=W7 y.toP
theorem rd45:Rd Try.prog 45 eY Y.W:=rd_iso (Q:=W7) (rd_struct (ts:=[30,2]) Try.underlying45 rfl (by kernel_rfl) (rds_cons rd30 (rds_one rd2))) _ _ _ _
theorem rdvLY:RdV Try.prog 40 dLY (fun l=>∀ s∈l,Y.W s):=rdv_slice Try.underlying40 (by kernel_rfl) (by decide) rd45
end Go.Proofs.Ytiipneclghnfhaa

namespace Go.Proofs.Ytiipneclghnfhaa
open Go.RowKit Go.Sx
theorem rdvU:RdV Try.prog 5 (dInt .u8) (fun n=>(Lit.int .u8 n).wf=true):=rdv_int Try.underlying5
end Go.Proofs.Ytiipneclghnfhaa

namespace Go.Proofs.Ytiipneclghnfhaa
open Go.ChangeShapes Go.WideShapes Go.ChangeAt Go.RowKit Go.Sx
theorem Try.own:ownKnob Try.prog.godebug=none:=by kernel_rfl
theorem Try.laidOut:laidOutB Try.prog=true:=by kernel_rfl
set_option maxRecDepth 100000 in
theorem multAny_lifted (law:FnPure Try.prog 5 aLYII dBool (fun _=>true) (fun g=>[0≤g.2.1∧g.2.1<256,0≤g.2.2∧g.2.2<256])) (os:Os) (started:os.Started) (H:Type) (enc:TypeId×Value→H) :
  ReturnsInHanded {} Try.checked os 5 .any (Rows.multAnySpec.pre6 enc Try.prog Try.f5 Rows.multAnyRow.domain false) (Rows.multAnySpec.post enc Try.prog Try.f5 false true false false):=by
 refine returnsInHanded_of_change (C:=Try.checked) Try.own started (by kernel_rfl) Try.func5
  (ChangeSpec.witness6 (enc:=enc) (C:=Try.checked) false ⟨#[],#[.slice none 0 0,.int .u8 0,.int .u8 0],[]⟩ 8 (by kernel_rfl) (by kernel_rfl) (by kernel_rfl) (by kernel_rfl)) ?_
 intro W base args ds gs before hval0 hW hcnd _
 have hval:∀ (j:Nat) t v,Try.f5.params[j]?=some t→args[j]?=some v→Value.okWide Try.prog W .any base t v:=hval0
 have hW':=hW
 obtain ⟨p,q,hA0,hV,rfl,hfz,hnd⟩:=hW
 have hA:DataW.TrodAll enc Try.prog W 0 (fun _=>true) true Try.f5.params.toList args.toList ds p:=hA0
 rw[Try.params5] at hA hval
 obtain ⟨v0,vs0,d0,ds0,p0,qq0,hargs,rfl,rfl,h0,r0⟩:=trodAll_cons hA
 obtain ⟨v1,vs1,d1,ds1,p1,qq1,rfl,rfl,rfl,h1,r1⟩:=trodAll_cons r0
 obtain ⟨v2,vs2,d2,ds2,p2,qq2,rfl,rfl,rfl,h2,r2⟩:=trodAll_cons r1
 obtain ⟨rfl,rfl,rfl⟩:=trodAll_nil r2
 obtain rfl:args=#[v0,v1,v2]:=by cases args;simp_all
 obtain ⟨rfl,rfl⟩:=trodVars_none hV
 obtain ⟨a0,q0,f0⟩:=rdvLY _ _ _ _ _ _ _ _ _ _ _ (hval 0 40 v0 rfl rfl) h0
 obtain ⟨a1,q1,f1⟩:=rdvU _ _ _ _ _ _ _ _ _ _ _ (hval 1 5 v1 rfl rfl) h1
 obtain ⟨a2,q2,f2⟩:=rdvU _ _ _ _ _ _ _ _ _ _ _ (hval 2 5 v2 rfl rfl) h2
 have lt:∀ {t:TypeId} {v:Value} {d:DataW H} {ps:List MemPlace},DataW.Trod enc Try.prog W 0 (fun _=>true) true t v d ps→∀ x∈ps,x.block<W.heap.size:=by
  rintro t v d ps ⟨m,hm⟩
  exact DataW.trod_lt m _ _ _ hm
 clear hA0 hval0
 refine (law W (fun b=>W.heap[b]?) (a0,a1,a2) [v0,v1,v2] (fun _ _ h=>h) (by intro p hp;rcases List.mem_cons.1 hp with e | hp;exact e▸u8_of q1;rcases List.mem_cons.1 hp with e | hp;exact e▸u8_of q2;cases hp) ⟨f0,f1,f2,trivial⟩).mono fun e W' ⟨x,he,bel,hx⟩=>?_
 obtain rfl:x=.bool true:=by simpa [dBool,SV.fit] using hx
 subst he
 exact ⟨_,rfl,_,_,_,[],_,[],hW',trodAll_mk1 (shut_bool Try.underlying4 _),
  (trodAll_cons_mk (Below.trod Try.laidOut (by kernel_rfl) (of_decide_eq_true (by kernel_rfl)) h0 bel (lt h0))
  (trodAll_cons_mk (Below.trod Try.laidOut (by kernel_rfl) (of_decide_eq_true (by kernel_rfl)) h1 bel (lt h1))
  (trodAll_cons_mk (Below.trod Try.laidOut (by kernel_rfl) (of_decide_eq_true (by kernel_rfl)) h2 bel (lt h2)) trodAll_mk0))),rfl,bel.frame _,fun h=>by cases h⟩
theorem multAny_over (law:FnPure Try.prog 5 aLYII dBool (fun _=>true) (fun g=>[0≤g.2.1∧g.2.1<256,0≤g.2.2∧g.2.2<256])):Rows.MultAnySaid:=
 OpenClaim.holds_of_wide 5 Try.f5 rfl rfl rfl rfl rfl rfl rfl ⟨rfl,rfl,rfl,rfl,rfl⟩ rfl rfl rfl rfl rfl (by kernel_rfl) Try.func5 (by kernel_rfl)
  (of_decide_eq_true (by kernel_rfl)) (by unfold Func.isWrapper;first | (rw[if_pos (by decide +kernel)];kernel_rfl) | (rw[if_neg (by decide +kernel)];exact ⟨rfl,rfl⟩))
  (fun os started H enc _=>multAny_lifted law os started H enc)
end Go.Proofs.Ytiipneclghnfhaa

namespace Go.Proofs.Ytiipneclghnfhaa
open Go.RowKit Go.Sx
theorem multAny_holds:Rows.MultAnySaid:=multAny_over lny_ok
end Go.Proofs.Ytiipneclghnfhaa
