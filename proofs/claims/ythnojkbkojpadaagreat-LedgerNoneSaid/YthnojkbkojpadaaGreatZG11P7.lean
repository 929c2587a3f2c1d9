/- Ledger: the self-test: a ledger's methods at these values. Printed by nd3.py. -/
import Derived.Test.YthnojkbkojpadaaGreatZG10aa934a
import Derived.Test.YthnojkbkojpadaaGreatZG07de90b3
import Derived.Test.YthnojkbkojpadaaGreatZG09e80002
set_option linter.unusedVariables false
set_option linter.unusedSimpArgs false
set_option linter.constructorNameAsVariable false
set_option linter.all false

namespace Go.Proofs.YthnojkbkojpadaaGreat
open Go.RowKit Go.Sx Go.Lp
set_option maxRecDepth 100000
abbrev lm0:Prop:=[Path.mk (Place.mk (1:Int) (2:Int)) (Place.mk (1:Int) (2:Int)) [S.mk (0:Int) (0:Int) (0:Int) (0:Int) (0:Int) (0:Int) (0:Int) (0:Int)]]=[Path.mk (Place.mk (1:Int) (2:Int)) (Place.mk (1:Int) (2:Int)) [S.mk (0:Int) (0:Int) (0:Int) (0:Int) (0:Int) (0:Int) (0:Int) (0:Int)]]
theorem lm0p:lm0:=rfl
abbrev lm1:Prop:=∀ (e:Nat),e<(1:Nat)→ePa.Ok (ePaC.els [Path.mk (Place.mk (1:Int) (2:Int)) (Place.mk (1:Int) (2:Int)) [S.mk (0:Int) (0:Int) (0:Int) (0:Int) (0:Int) (0:Int) (0:Int) (0:Int)]] e)
theorem lm1p:lm1:=fun e he=>by obtain rfl:e=0:=(by omega);exact El.okP (A:=ePa) fun p hp=>al_one (fun e he=>by have he:e<1:=he;obtain rfl:e=0:=(by omega);exact El.okP (A:=eS) trivial) hp
abbrev lm2:Prop:=(1:Nat)≤(1000000:Nat)
theorem lm2p:lm2:=by decide
abbrev lm3:Prop:=(0:Int)≤(0:Int)∧(0:Int)<(1:Int)
theorem lm3p:lm3:=by decide
abbrev lm4:Prop:=(0:Nat)<(1:Nat)
theorem lm4p:lm4:=by decide
abbrev lm5:Prop:=∀ (e:Nat),e<(1:Nat)→eS.Ok (eS.els [S.mk (0:Int) (0:Int) (0:Int) (0:Int) (0:Int) (0:Int) (0:Int) (0:Int)] e)
theorem lm5p:lm5:=fun _ _=>El.ok_els _ _ _
abbrev lm6:Prop:=(1:Nat)≤(1:Nat)
theorem lm6p:lm6:=by decide
abbrev lm7:Prop:=∀ (p:Prop),p∈[]++[]++([]++[]++[∀ (e:Nat),e<(1:Nat)→eS.Ok (eS.els [S.mk (0:Int) (0:Int) (0:Int) (0:Int) (0:Int) (0:Int) (0:Int) (0:Int)] e)])→p
theorem lm7p:lm7:=fun p hp=>al_one (fun _ _=>El.ok_els _ _ _) hp
abbrev lm8:Prop:=∀ (e:Nat),e<(1:Nat)→∀ (p:Prop),p∈[]++[]++([]++[]++[eS.okL ([Path.mk (Place.mk (1:Int) (2:Int)) (Place.mk (1:Int) (2:Int)) [S.mk (0:Int) (0:Int) (0:Int) (0:Int) (0:Int) (0:Int) (0:Int) (0:Int)]].getD e (Path.mk (Place.mk (0:Int) (0:Int)) (Place.mk (0:Int) (0:Int)) [])).ss])→p
theorem lm8p:lm8:=fun _ _ p hp=>al_one (by rw[El.okL_eq];trivial) hp
abbrev lm9:Prop:=∀ (e:Nat),e<(1:Nat)→True
theorem lm9p:lm9:=fun _ _=>trivial
abbrev lm10:Prop:=∀ (e:Nat),e<(0:Nat)→True
theorem lm10p:lm10:=fun _ _=>trivial
abbrev lm11:Prop:=∀ (e:Nat),e<(0:Nat)→(10:Nat)=(10:Nat)
theorem lm11p:lm11:=fun _ _=>rfl
abbrev lm12:Prop:=(0:Int)=(0:Int)
theorem lm12p:lm12:=by decide
abbrev lm13:Prop:=∀ (e:Nat),e<(1:Nat)→(10:Nat)=(10:Nat)
theorem lm13p:lm13:=fun _ _=>rfl
abbrev lm14:Prop:=∀ (e:Nat),e<(1:Nat)→ePa.Ok (ePa.els [Path.mk (Place.mk (1:Int) (2:Int)) (Place.mk (1:Int) (2:Int)) [S.mk (0:Int) (0:Int) (0:Int) (0:Int) (0:Int) (0:Int) (0:Int) (0:Int)]] e)
theorem lm14p:lm14:=fun _ _=>El.ok_els _ _ _
abbrev lm15:Prop:=∀ (e:Nat),e<(1:Nat)→(eP.pair eI).Ok ((eP.pair eI).els [(Place.mk (1:Int) (2:Int),(0:Int))] e)
theorem lm15p:lm15:=fun _ _=>El.ok_els _ _ _
abbrev lm16:Prop:=True
theorem lm16p:lm16:=trivial
abbrev lm17:Prop:=∀ (e:Nat),e<(1:Nat)→(eKy.pair eI).Ok (List.take (9:Nat) ((ElE.fn ((eKy.ent eI).els [((Place.mk (1:Int) (2:Int),T.mk (3:Int) (0:Int) (0:Int) (0:Int) (0:Int) (0:Int)),(1:Int),(0:Int))])).at e))
theorem lm17p:lm17:=fun _ _=>(ent_ok (K:=eKy) (V:=eI) (El.ok_els _ _ _)).1
abbrev lm18:Prop:=KdM [((Place.mk (1:Int) (2:Int),T.mk (3:Int) (0:Int) (0:Int) (0:Int) (0:Int) (0:Int)),(1:Int))]
theorem lm18p:lm18:=List.pairwise_singleton _ _
abbrev lm19:Prop:=True∧True∧(1:Nat)≤(9223372036854775807:Nat)∧(72:Nat)≤(140737488355328:Nat)
theorem lm19p:lm19:=⟨trivial,trivial,by decide,by decide⟩
abbrev lm20:Prop:=∀ (e:Nat),e<(1:Nat)→eC.Ok ((ElE.app (0:Nat) (ElE.fn fun x=>[]) (ElE.fn fun x=>[SV.v (Value.int IntKind.i64 (1:Int)),SV.v (Value.int IntKind.i64 (2:Int)),SV.v (Value.int IntKind.i64 (3:Int)),SV.v (Value.int IntKind.i64 (0:Int)),SV.v (Value.int IntKind.i64 (0:Int)),SV.v (Value.int IntKind.i64 (0:Int)),SV.v (Value.int IntKind.i64 (0:Int)),SV.v (Value.int IntKind.i64 (0:Int)),SV.v (Value.int IntKind.i64 (1:Int))])).at e)
theorem lm20p:lm20:=fun e he=>by obtain rfl:e=0:=(by omega);exact El.okP (A:=eC) trivial
abbrev lm21:Prop:=fr1_P ([Path.mk (Place.mk (1:Int) (2:Int)) (Place.mk (1:Int) (2:Int)) [S.mk (0:Int) (0:Int) (0:Int) (0:Int) (0:Int) (0:Int) (0:Int) (0:Int)]],Place.mk (1:Int) (2:Int),[Change.mk (Place.mk (1:Int) (2:Int)) (T.mk (3:Int) (0:Int) (0:Int) (0:Int) (0:Int) (0:Int)) (1:Int)])
theorem lm21p:lm21:=.inl rfl
abbrev lm22:Prop:=∀ (e:Nat),e<(1:Nat)→eT.Ok (eT.els [T.mk (3:Int) (0:Int) (0:Int) (0:Int) (0:Int) (0:Int)] e)
theorem lm22p:lm22:=fun _ _=>El.ok_els _ _ _
abbrev lm23:Prop:=∀ (e:Nat),e<(0:Nat)→(eKy.pair eI).Ok (List.take (9:Nat) ((ElE.fn ((eKy.ent eI).els [])).at e))
theorem lm23p:lm23:=fun _ _=>(ent_ok (K:=eKy) (V:=eI) (El.ok_els _ _ _)).1
abbrev lm24:Prop:=(0:Nat)≤(1000000:Nat)
theorem lm24p:lm24:=by decide
abbrev lm25:Prop:=KdM []
theorem lm25p:lm25:=List.Pairwise.nil
abbrev lm26:Prop:=fr1_P ([Path.mk (Place.mk (1:Int) (2:Int)) (Place.mk (1:Int) (2:Int)) [S.mk (0:Int) (0:Int) (0:Int) (0:Int) (0:Int) (0:Int) (0:Int) (0:Int)]],Place.mk (1:Int) (2:Int),[])
theorem lm26p:lm26:=.inr rfl
abbrev lm27:Prop:=∀ (e:Nat),e<(0:Nat)→eT.Ok (eT.els [] e)
theorem lm27p:lm27:=fun _ _=>El.ok_els _ _ _
noncomputable abbrev nw2hv:=(((),(some lk0,0)):Unit×(Option LdK×Int))
theorem nw2h:(tNw2).Holds (·=(((),(some lk0,0)):Unit×(Option LdK×Int))):=Tr.hn_holds (by rw[show (tNw2).hn (((),(some lk0,0)):Unit×(Option LdK×Int))=(lm0∧lm1∧lm2∧(lm3∧lm4∧lm5∧lm2∧lm3∧lm4∧lm6∧lm0∧lm6∧lm7∧lm8∧lm9∧lm10∧nw2hv=nw2hv)∧∀ (_:Nat) (_:List Nat),lm3∧lm4∧lm5∧lm2∧lm3∧lm4∧lm6∧lm0∧lm6∧lm7∧lm8∧lm9∧lm10∧nw2hv=nw2hv) by kernel_rfl];exact ⟨lm0p,lm1p,lm2p,⟨lm3p,lm4p,lm5p,lm2p,lm3p,lm4p,lm6p,lm0p,lm6p,lm7p,lm8p,lm9p,lm10p,rfl⟩,fun _ _=>⟨lm3p,lm4p,lm5p,lm2p,lm3p,lm4p,lm6p,lm0p,lm6p,lm7p,lm8p,lm9p,lm10p,rfl⟩⟩)
noncomputable abbrev tk1hv:=((lk1,0):LdK×Int)
theorem tk1h:(tTk1).Holds (·=((lk1,0):LdK×Int)):=Tr.hn_holds (by rw[show (tTk1).hn ((lk1,0):LdK×Int)=(lm2∧lm3∧lm11∧lm10∧lm3∧(lm11∧lm10∧lm11∧lm10∧lm12∧lm13∧lm9∧lm14∧lm15∧lm16∧lm9∧tk1hv=tk1hv)∧∀ (_:Nat) (_:List Nat),lm11∧lm10∧lm13∧lm9∧lm12∧lm13∧lm9∧lm14∧lm15∧lm16∧lm9∧tk1hv=tk1hv) by kernel_rfl];exact ⟨lm2p,lm3p,lm11p,lm10p,lm3p,⟨lm11p,lm10p,lm11p,lm10p,lm12p,lm13p,lm9p,lm14p,lm15p,lm16p,lm9p,rfl⟩,fun _ _=>⟨lm11p,lm10p,lm13p,lm9p,lm12p,lm13p,lm9p,lm14p,lm15p,lm16p,lm9p,rfl⟩⟩)
noncomputable abbrev tk2hv:=((lk2,0):LdK×Int)
theorem tk2h:(tTk2).Holds (·=((lk2,0):LdK×Int)):=Tr.hn_holds (by rw[show (tTk2).hn ((lk2,0):LdK×Int)=(lm2∧lm3∧lm13∧lm9∧lm3∧(lm13∧lm9∧lm13∧lm9∧lm12∧lm13∧lm9∧lm13∧lm9∧lm14∧lm15∧lm16∧lm10∧lm16∧lm9∧tk2hv=tk2hv)∧∀ (_:Nat) (_:List Nat),lm13∧lm9∧lm13∧lm9∧lm12∧lm13∧lm9∧lm13∧lm9∧lm14∧lm15∧lm16∧lm10∧lm16∧lm9∧tk2hv=tk2hv) by kernel_rfl];exact ⟨lm2p,lm3p,lm13p,lm9p,lm3p,⟨lm13p,lm9p,lm13p,lm9p,lm12p,lm13p,lm9p,lm13p,lm9p,lm14p,lm15p,lm16p,lm10p,lm16p,lm9p,rfl⟩,fun _ _=>⟨lm13p,lm9p,lm13p,lm9p,lm12p,lm13p,lm9p,lm13p,lm9p,lm14p,lm15p,lm16p,lm10p,lm16p,lm9p,rfl⟩⟩)
noncomputable abbrev fm1hv:=((lk1,([t3],0)):LdK×(List T×Int))
theorem fm1h:(tFm1).Holds (·=((lk1,([t3],0)):LdK×(List T×Int))):=Tr.hn_holds (by rw[show (tFm1).hn ((lk1,([t3],0)):LdK×(List T×Int))=(((lm17∧lm2∧lm18∧lm3∧lm4∧lm9∧lm19∧lm6∧lm20∧lm21∧lm14∧lm15∧lm9∧lm22∧fm1hv=fm1hv)∧∀ (_:Nat) (_:List Nat),lm17∧lm2∧lm18∧lm3∧lm4∧lm9∧lm19∧lm6∧lm20∧lm21∧lm14∧lm15∧lm9∧lm22∧fm1hv=fm1hv)∧∀ (_:Nat) (_:List Nat),(lm17∧lm2∧lm18∧lm3∧lm4∧lm9∧lm19∧lm6∧lm20∧lm21∧lm14∧lm15∧lm9∧lm22∧fm1hv=fm1hv)∧∀ (_:Nat) (_:List Nat),lm17∧lm2∧lm18∧lm3∧lm4∧lm9∧lm19∧lm6∧lm20∧lm21∧lm14∧lm15∧lm9∧lm22∧fm1hv=fm1hv) by kernel_rfl];exact ⟨⟨⟨lm17p,lm2p,lm18p,lm3p,lm4p,lm9p,lm19p,lm6p,lm20p,lm21p,lm14p,lm15p,lm9p,lm22p,rfl⟩,fun _ _=>⟨lm17p,lm2p,lm18p,lm3p,lm4p,lm9p,lm19p,lm6p,lm20p,lm21p,lm14p,lm15p,lm9p,lm22p,rfl⟩⟩,fun _ _=>⟨⟨lm17p,lm2p,lm18p,lm3p,lm4p,lm9p,lm19p,lm6p,lm20p,lm21p,lm14p,lm15p,lm9p,lm22p,rfl⟩,fun _ _=>⟨lm17p,lm2p,lm18p,lm3p,lm4p,lm9p,lm19p,lm6p,lm20p,lm21p,lm14p,lm15p,lm9p,lm22p,rfl⟩⟩⟩)
noncomputable abbrev fm2hv:=((lk2,([],0)):LdK×(List T×Int))
theorem fm2h:(tFm2).Holds (·=((lk2,([],0)):LdK×(List T×Int))):=Tr.hn_holds (by rw[show (tFm2).hn ((lk2,([],0)):LdK×(List T×Int))=(((lm23∧lm24∧lm25∧lm26∧lm14∧lm15∧lm10∧lm27∧fm2hv=fm2hv)∧∀ (_:Nat) (_:List Nat),lm23∧lm24∧lm25∧lm26∧lm14∧lm15∧lm10∧lm27∧fm2hv=fm2hv)∧∀ (_:Nat) (_:List Nat),(lm23∧lm24∧lm25∧lm26∧lm14∧lm15∧lm10∧lm27∧fm2hv=fm2hv)∧∀ (_:Nat) (_:List Nat),lm23∧lm24∧lm25∧lm26∧lm14∧lm15∧lm10∧lm27∧fm2hv=fm2hv) by kernel_rfl];exact ⟨⟨⟨lm23p,lm24p,lm25p,lm26p,lm14p,lm15p,lm10p,lm27p,rfl⟩,fun _ _=>⟨lm23p,lm24p,lm25p,lm26p,lm14p,lm15p,lm10p,lm27p,rfl⟩⟩,fun _ _=>⟨⟨lm23p,lm24p,lm25p,lm26p,lm14p,lm15p,lm10p,lm27p,rfl⟩,fun _ _=>⟨lm23p,lm24p,lm25p,lm26p,lm14p,lm15p,lm10p,lm27p,rfl⟩⟩⟩)
end Go.Proofs.YthnojkbkojpadaaGreat

namespace Go.Proofs.YthnojkbkojpadaaGreat
open Go.RowKit Go.Sx Go.Lp
set_option maxRecDepth 100000
theorem nd10000000:(((((((((tOf).kOf [0]).kOf []).kOf []).kOf []).kOf []).kOf []).kOf []).kOf []).Holds (·=([pa0],0)):=Tr.leaf_holds default (by rw[show (((((((((tOf).kOf [0]).kOf []).kOf []).kOf []).kOf []).kOf []).kOf []).kOf []).asksC=[ix0,ix0,ix0,0<1,ix0,0<1,as3,1≤1,gr0 56,ix0,0<1,1≤1,as4] by kernel_rfl];exact al_cons ix0_ok <| al_cons ix0_ok <| al_cons ix0_ok <| al_cons Nat.zero_lt_one <| al_cons ix0_ok <| al_cons Nat.zero_lt_one <| al_cons as3_ok <| al_cons (Nat.le_refl 1) <| al_cons (gr0_ok (by omega)) <| al_cons ix0_ok <| al_cons Nat.zero_lt_one <| al_cons (Nat.le_refl 1) <| al_cons as4_ok <| al_nil) (by kernel_rfl)
theorem nd11000000:(((((((((tOf).kOf [0]).kOf [0]).kOf []).kOf []).kOf []).kOf []).kOf []).kOf []).Holds (·=([pa0],0)):=Tr.leaf_holds default (by rw[show (((((((((tOf).kOf [0]).kOf [0]).kOf []).kOf []).kOf []).kOf []).kOf []).kOf []).asksC=[ix0,ix0,ix0,0<1,ix0,0<1,as3,1≤1,gr0 56,ix0,0<1,1≤1,as4] by kernel_rfl];exact al_cons ix0_ok <| al_cons ix0_ok <| al_cons ix0_ok <| al_cons Nat.zero_lt_one <| al_cons ix0_ok <| al_cons Nat.zero_lt_one <| al_cons as3_ok <| al_cons (Nat.le_refl 1) <| al_cons (gr0_ok (by omega)) <| al_cons ix0_ok <| al_cons Nat.zero_lt_one <| al_cons (Nat.le_refl 1) <| al_cons as4_ok <| al_nil) (by kernel_rfl)
theorem nd0000000:((((((((tOf).kOf []).kOf []).kOf []).kOf []).kOf []).kOf []).kOf []).Holds (·=([pa0],0)):=Tr.leaf_holds default (by rw[show ((((((((tOf).kOf []).kOf []).kOf []).kOf []).kOf []).kOf []).kOf []).asksC=[ix0,ix0,ix0,0<1,ix0,0<1,as3,1≤1,gr0 56,ix0,0<1,1≤1,as4] by kernel_rfl];exact al_cons ix0_ok <| al_cons ix0_ok <| al_cons ix0_ok <| al_cons Nat.zero_lt_one <| al_cons ix0_ok <| al_cons Nat.zero_lt_one <| al_cons as3_ok <| al_cons (Nat.le_refl 1) <| al_cons (gr0_ok (by omega)) <| al_cons ix0_ok <| al_cons Nat.zero_lt_one <| al_cons (Nat.le_refl 1) <| al_cons as4_ok <| al_nil) (by kernel_rfl)
theorem nd1001110:((((((((tOf).kOf [0]).kOf []).kOf []).kOf [0]).kOf [0]).kOf [0]).kOf []).Holds (·=([pa0],0)):=Tr.leaf_holds default (by rw[show ((((((((tOf).kOf [0]).kOf []).kOf []).kOf [0]).kOf [0]).kOf [0]).kOf []).asksC=[ix0,0<1,ix0,0<1,ix0,as3,ix0,1≤1,gr0 56,ix0,0<1,1≤1,as4] by kernel_rfl];exact al_cons ix0_ok <| al_cons Nat.zero_lt_one <| al_cons ix0_ok <| al_cons Nat.zero_lt_one <| al_cons ix0_ok <| al_cons as3_ok <| al_cons ix0_ok <| al_cons (Nat.le_refl 1) <| al_cons (gr0_ok (by omega)) <| al_cons ix0_ok <| al_cons Nat.zero_lt_one <| al_cons (Nat.le_refl 1) <| al_cons as4_ok <| al_nil) (by kernel_rfl)
theorem nd1100110:((((((((tOf).kOf [0]).kOf [0]).kOf []).kOf []).kOf [0]).kOf [0]).kOf []).Holds (·=([pa0],0)):=Tr.leaf_holds default (by rw[show ((((((((tOf).kOf [0]).kOf [0]).kOf []).kOf []).kOf [0]).kOf [0]).kOf []).asksC=[ix0,ix0,0<1,ix0,0<1,as3,ix0,1≤1,gr0 56,ix0,0<1,1≤1,as4] by kernel_rfl];exact al_cons ix0_ok <| al_cons ix0_ok <| al_cons Nat.zero_lt_one <| al_cons ix0_ok <| al_cons Nat.zero_lt_one <| al_cons as3_ok <| al_cons ix0_ok <| al_cons (Nat.le_refl 1) <| al_cons (gr0_ok (by omega)) <| al_cons ix0_ok <| al_cons Nat.zero_lt_one <| al_cons (Nat.le_refl 1) <| al_cons as4_ok <| al_nil) (by kernel_rfl)
theorem nd001110:(((((((tOf).kOf []).kOf []).kOf [0]).kOf [0]).kOf [0]).kOf []).Holds (·=([pa0],0)):=Tr.leaf_holds default (by rw[show (((((((tOf).kOf []).kOf []).kOf [0]).kOf [0]).kOf [0]).kOf []).asksC=[ix0,0<1,ix0,0<1,ix0,as3,ix0,1≤1,gr0 56,ix0,0<1,1≤1,as4] by kernel_rfl];exact al_cons ix0_ok <| al_cons Nat.zero_lt_one <| al_cons ix0_ok <| al_cons Nat.zero_lt_one <| al_cons ix0_ok <| al_cons as3_ok <| al_cons ix0_ok <| al_cons (Nat.le_refl 1) <| al_cons (gr0_ok (by omega)) <| al_cons ix0_ok <| al_cons Nat.zero_lt_one <| al_cons (Nat.le_refl 1) <| al_cons as4_ok <| al_nil) (by kernel_rfl)
theorem nd100010:(((((((tOf).kOf [0]).kOf []).kOf []).kOf []).kOf [0]).kOf []).Holds (·=([pa0],0)):=Tr.leaf_holds default (by rw[show (((((((tOf).kOf [0]).kOf []).kOf []).kOf []).kOf [0]).kOf []).asksC=[ix0,ix0,0<1,ix0,0<1,as3,ix0,1≤1,gr0 56,ix0,0<1,1≤1,as4] by kernel_rfl];exact al_cons ix0_ok <| al_cons ix0_ok <| al_cons Nat.zero_lt_one <| al_cons ix0_ok <| al_cons Nat.zero_lt_one <| al_cons as3_ok <| al_cons ix0_ok <| al_cons (Nat.le_refl 1) <| al_cons (gr0_ok (by omega)) <| al_cons ix0_ok <| al_cons Nat.zero_lt_one <| al_cons (Nat.le_refl 1) <| al_cons as4_ok <| al_nil) (by kernel_rfl)
theorem nd101110:(((((((tOf).kOf [0]).kOf []).kOf [0]).kOf [0]).kOf [0]).kOf []).Holds (·=([pa0],0)):=Tr.leaf_holds default (by rw[show (((((((tOf).kOf [0]).kOf []).kOf [0]).kOf [0]).kOf [0]).kOf []).asksC=[ix0,0<1,ix0,0<1,ix0,as3,ix0,1≤1,gr0 56,ix0,0<1,1≤1,as4] by kernel_rfl];exact al_cons ix0_ok <| al_cons Nat.zero_lt_one <| al_cons ix0_ok <| al_cons Nat.zero_lt_one <| al_cons ix0_ok <| al_cons as3_ok <| al_cons ix0_ok <| al_cons (Nat.le_refl 1) <| al_cons (gr0_ok (by omega)) <| al_cons ix0_ok <| al_cons Nat.zero_lt_one <| al_cons (Nat.le_refl 1) <| al_cons as4_ok <| al_nil) (by kernel_rfl)
theorem nd110010:(((((((tOf).kOf [0]).kOf [0]).kOf []).kOf []).kOf [0]).kOf []).Holds (·=([pa0],0)):=Tr.leaf_holds default (by rw[show (((((((tOf).kOf [0]).kOf [0]).kOf []).kOf []).kOf [0]).kOf []).asksC=[ix0,ix0,0<1,ix0,0<1,as3,ix0,1≤1,gr0 56,ix0,0<1,1≤1,as4] by kernel_rfl];exact al_cons ix0_ok <| al_cons ix0_ok <| al_cons Nat.zero_lt_one <| al_cons ix0_ok <| al_cons Nat.zero_lt_one <| al_cons as3_ok <| al_cons ix0_ok <| al_cons (Nat.le_refl 1) <| al_cons (gr0_ok (by omega)) <| al_cons ix0_ok <| al_cons Nat.zero_lt_one <| al_cons (Nat.le_refl 1) <| al_cons as4_ok <| al_nil) (by kernel_rfl)
theorem nd111110:(((((((tOf).kOf [0]).kOf [0]).kOf [0]).kOf [0]).kOf [0]).kOf []).Holds (·=([pa0],0)):=Tr.leaf_holds default (by rw[show (((((((tOf).kOf [0]).kOf [0]).kOf [0]).kOf [0]).kOf [0]).kOf []).asksC=[ix0,0<1,ix0,0<1,ix0,as3,ix0,1≤1,gr0 56,ix0,0<1,1≤1,as4] by kernel_rfl];exact al_cons ix0_ok <| al_cons Nat.zero_lt_one <| al_cons ix0_ok <| al_cons Nat.zero_lt_one <| al_cons ix0_ok <| al_cons as3_ok <| al_cons ix0_ok <| al_cons (Nat.le_refl 1) <| al_cons (gr0_ok (by omega)) <| al_cons ix0_ok <| al_cons Nat.zero_lt_one <| al_cons (Nat.le_refl 1) <| al_cons as4_ok <| al_nil) (by kernel_rfl)
theorem nd00010:((((((tOf).kOf []).kOf []).kOf []).kOf [0]).kOf []).Holds (·=([pa0],0)):=Tr.leaf_holds default (by rw[show ((((((tOf).kOf []).kOf []).kOf []).kOf [0]).kOf []).asksC=[ix0,ix0,0<1,ix0,0<1,as3,ix0,1≤1,gr0 56,ix0,0<1,1≤1,as4] by kernel_rfl];exact al_cons ix0_ok <| al_cons ix0_ok <| al_cons Nat.zero_lt_one <| al_cons ix0_ok <| al_cons Nat.zero_lt_one <| al_cons as3_ok <| al_cons ix0_ok <| al_cons (Nat.le_refl 1) <| al_cons (gr0_ok (by omega)) <| al_cons ix0_ok <| al_cons Nat.zero_lt_one <| al_cons (Nat.le_refl 1) <| al_cons as4_ok <| al_nil) (by kernel_rfl)
theorem nd01110:((((((tOf).kOf []).kOf [0]).kOf [0]).kOf [0]).kOf []).Holds (·=([pa0],0)):=Tr.leaf_holds default (by rw[show ((((((tOf).kOf []).kOf [0]).kOf [0]).kOf [0]).kOf []).asksC=[ix0,0<1,ix0,0<1,ix0,as3,ix0,1≤1,gr0 56,ix0,0<1,1≤1,as4] by kernel_rfl];exact al_cons ix0_ok <| al_cons Nat.zero_lt_one <| al_cons ix0_ok <| al_cons Nat.zero_lt_one <| al_cons ix0_ok <| al_cons as3_ok <| al_cons ix0_ok <| al_cons (Nat.le_refl 1) <| al_cons (gr0_ok (by omega)) <| al_cons ix0_ok <| al_cons Nat.zero_lt_one <| al_cons (Nat.le_refl 1) <| al_cons as4_ok <| al_nil) (by kernel_rfl)
theorem nd10010:((((((tOf).kOf [0]).kOf []).kOf []).kOf [0]).kOf []).Holds (·=([pa0],0)):=Tr.leaf_holds default (by rw[show ((((((tOf).kOf [0]).kOf []).kOf []).kOf [0]).kOf []).asksC=[ix0,0<1,ix0,0<1,as3,ix0,ix0,1≤1,gr0 56,ix0,0<1,1≤1,as4] by kernel_rfl];exact al_cons ix0_ok <| al_cons Nat.zero_lt_one <| al_cons ix0_ok <| al_cons Nat.zero_lt_one <| al_cons as3_ok <| al_cons ix0_ok <| al_cons ix0_ok <| al_cons (Nat.le_refl 1) <| al_cons (gr0_ok (by omega)) <| al_cons ix0_ok <| al_cons Nat.zero_lt_one <| al_cons (Nat.le_refl 1) <| al_cons as4_ok <| al_nil) (by kernel_rfl)
theorem nd11110:((((((tOf).kOf [0]).kOf [0]).kOf [0]).kOf [0]).kOf []).Holds (·=([pa0],0)):=Tr.leaf_holds default (by rw[show ((((((tOf).kOf [0]).kOf [0]).kOf [0]).kOf [0]).kOf []).asksC=[ix0,0<1,ix0,0<1,as3,ix0,ix0,1≤1,gr0 56,ix0,0<1,1≤1,as4] by kernel_rfl];exact al_cons ix0_ok <| al_cons Nat.zero_lt_one <| al_cons ix0_ok <| al_cons Nat.zero_lt_one <| al_cons as3_ok <| al_cons ix0_ok <| al_cons ix0_ok <| al_cons (Nat.le_refl 1) <| al_cons (gr0_ok (by omega)) <| al_cons ix0_ok <| al_cons Nat.zero_lt_one <| al_cons (Nat.le_refl 1) <| al_cons as4_ok <| al_nil) (by kernel_rfl)
theorem nd0010:(((((tOf).kOf []).kOf []).kOf [0]).kOf []).Holds (·=([pa0],0)):=Tr.leaf_holds default (by rw[show (((((tOf).kOf []).kOf []).kOf [0]).kOf []).asksC=[ix0,0<1,ix0,0<1,as3,ix0,ix0,1≤1,gr0 56,ix0,0<1,1≤1,as4] by kernel_rfl];exact al_cons ix0_ok <| al_cons Nat.zero_lt_one <| al_cons ix0_ok <| al_cons Nat.zero_lt_one <| al_cons as3_ok <| al_cons ix0_ok <| al_cons ix0_ok <| al_cons (Nat.le_refl 1) <| al_cons (gr0_ok (by omega)) <| al_cons ix0_ok <| al_cons Nat.zero_lt_one <| al_cons (Nat.le_refl 1) <| al_cons as4_ok <| al_nil) (by kernel_rfl)
end Go.Proofs.YthnojkbkojpadaaGreat

namespace Go.Proofs.YthnojkbkojpadaaGreat
open Go.RowKit Go.Sx Go.Lp
set_option maxRecDepth 100000
theorem nd10000001:(((((((((tOf).kOf [0]).kOf []).kOf []).kOf []).kOf []).kOf []).kOf []).kOf [0]).Holds (·=([pa0],0)):=Tr.leaf_holds default (by rw[show (((((((((tOf).kOf [0]).kOf []).kOf []).kOf []).kOf []).kOf []).kOf []).kOf [0]).asksC=[ix0,ix0,ix0,0<1,ix0,0<1,as3,1≤1,gr0 56,ix0,0<1,1≤1,as4] by kernel_rfl];exact al_cons ix0_ok <| al_cons ix0_ok <| al_cons ix0_ok <| al_cons Nat.zero_lt_one <| al_cons ix0_ok <| al_cons Nat.zero_lt_one <| al_cons as3_ok <| al_cons (Nat.le_refl 1) <| al_cons (gr0_ok (by omega)) <| al_cons ix0_ok <| al_cons Nat.zero_lt_one <| al_cons (Nat.le_refl 1) <| al_cons as4_ok <| al_nil) (by kernel_rfl)
theorem nd11000001:(((((((((tOf).kOf [0]).kOf [0]).kOf []).kOf []).kOf []).kOf []).kOf []).kOf [0]).Holds (·=([pa0],0)):=Tr.leaf_holds default (by rw[show (((((((((tOf).kOf [0]).kOf [0]).kOf []).kOf []).kOf []).kOf []).kOf []).kOf [0]).asksC=[ix0,ix0,ix0,0<1,ix0,0<1,as3,1≤1,gr0 56,ix0,0<1,1≤1,as4] by kernel_rfl];exact al_cons ix0_ok <| al_cons ix0_ok <| al_cons ix0_ok <| al_cons Nat.zero_lt_one <| al_cons ix0_ok <| al_cons Nat.zero_lt_one <| al_cons as3_ok <| al_cons (Nat.le_refl 1) <| al_cons (gr0_ok (by omega)) <| al_cons ix0_ok <| al_cons Nat.zero_lt_one <| al_cons (Nat.le_refl 1) <| al_cons as4_ok <| al_nil) (by kernel_rfl)
theorem nd0000001:((((((((tOf).kOf []).kOf []).kOf []).kOf []).kOf []).kOf []).kOf [0]).Holds (·=([pa0],0)):=Tr.leaf_holds default (by rw[show ((((((((tOf).kOf []).kOf []).kOf []).kOf []).kOf []).kOf []).kOf [0]).asksC=[ix0,ix0,ix0,0<1,ix0,0<1,as3,1≤1,gr0 56,ix0,0<1,1≤1,as4] by kernel_rfl];exact al_cons ix0_ok <| al_cons ix0_ok <| al_cons ix0_ok <| al_cons Nat.zero_lt_one <| al_cons ix0_ok <| al_cons Nat.zero_lt_one <| al_cons as3_ok <| al_cons (Nat.le_refl 1) <| al_cons (gr0_ok (by omega)) <| al_cons ix0_ok <| al_cons Nat.zero_lt_one <| al_cons (Nat.le_refl 1) <| al_cons as4_ok <| al_nil) (by kernel_rfl)
theorem nd1000001:((((((((tOf).kOf [0]).kOf []).kOf []).kOf []).kOf []).kOf []).kOf [0]).Holds (·=([pa0],0)):=Tr.leaf_holds default (by rw[show ((((((((tOf).kOf [0]).kOf []).kOf []).kOf []).kOf []).kOf []).kOf [0]).asksC=[ix0,ix0,0<1,ix0,0<1,as3,ix0,1≤1,gr0 56,ix0,0<1,1≤1,as4] by kernel_rfl];exact al_cons ix0_ok <| al_cons ix0_ok <| al_cons Nat.zero_lt_one <| al_cons ix0_ok <| al_cons Nat.zero_lt_one <| al_cons as3_ok <| al_cons ix0_ok <| al_cons (Nat.le_refl 1) <| al_cons (gr0_ok (by omega)) <| al_cons ix0_ok <| al_cons Nat.zero_lt_one <| al_cons (Nat.le_refl 1) <| al_cons as4_ok <| al_nil) (by kernel_rfl)
theorem nd1001111:((((((((tOf).kOf [0]).kOf []).kOf []).kOf [0]).kOf [0]).kOf [0]).kOf [0]).Holds (·=([pa0],0)):=Tr.leaf_holds default (by rw[show ((((((((tOf).kOf [0]).kOf []).kOf []).kOf [0]).kOf [0]).kOf [0]).kOf [0]).asksC=[ix0,0<1,ix0,0<1,ix0,as3,ix0,1≤1,gr0 56,ix0,0<1,1≤1,as4] by kernel_rfl];exact al_cons ix0_ok <| al_cons Nat.zero_lt_one <| al_cons ix0_ok <| al_cons Nat.zero_lt_one <| al_cons ix0_ok <| al_cons as3_ok <| al_cons ix0_ok <| al_cons (Nat.le_refl 1) <| al_cons (gr0_ok (by omega)) <| al_cons ix0_ok <| al_cons Nat.zero_lt_one <| al_cons (Nat.le_refl 1) <| al_cons as4_ok <| al_nil) (by kernel_rfl)
theorem nd000001:(((((((tOf).kOf []).kOf []).kOf []).kOf []).kOf []).kOf [0]).Holds (·=([pa0],0)):=Tr.leaf_holds default (by rw[show (((((((tOf).kOf []).kOf []).kOf []).kOf []).kOf []).kOf [0]).asksC=[ix0,ix0,0<1,ix0,0<1,as3,ix0,1≤1,gr0 56,ix0,0<1,1≤1,as4] by kernel_rfl];exact al_cons ix0_ok <| al_cons ix0_ok <| al_cons Nat.zero_lt_one <| al_cons ix0_ok <| al_cons Nat.zero_lt_one <| al_cons as3_ok <| al_cons ix0_ok <| al_cons (Nat.le_refl 1) <| al_cons (gr0_ok (by omega)) <| al_cons ix0_ok <| al_cons Nat.zero_lt_one <| al_cons (Nat.le_refl 1) <| al_cons as4_ok <| al_nil) (by kernel_rfl)
theorem nd001111:(((((((tOf).kOf []).kOf []).kOf [0]).kOf [0]).kOf [0]).kOf [0]).Holds (·=([pa0],0)):=Tr.leaf_holds default (by rw[show (((((((tOf).kOf []).kOf []).kOf [0]).kOf [0]).kOf [0]).kOf [0]).asksC=[ix0,0<1,ix0,0<1,ix0,as3,ix0,1≤1,gr0 56,ix0,0<1,1≤1,as4] by kernel_rfl];exact al_cons ix0_ok <| al_cons Nat.zero_lt_one <| al_cons ix0_ok <| al_cons Nat.zero_lt_one <| al_cons ix0_ok <| al_cons as3_ok <| al_cons ix0_ok <| al_cons (Nat.le_refl 1) <| al_cons (gr0_ok (by omega)) <| al_cons ix0_ok <| al_cons Nat.zero_lt_one <| al_cons (Nat.le_refl 1) <| al_cons as4_ok <| al_nil) (by kernel_rfl)
theorem nd101111:(((((((tOf).kOf [0]).kOf []).kOf [0]).kOf [0]).kOf [0]).kOf [0]).Holds (·=([pa0],0)):=Tr.leaf_holds default (by rw[show (((((((tOf).kOf [0]).kOf []).kOf [0]).kOf [0]).kOf [0]).kOf [0]).asksC=[ix0,0<1,ix0,0<1,ix0,as3,ix0,1≤1,gr0 56,ix0,0<1,1≤1,as4] by kernel_rfl];exact al_cons ix0_ok <| al_cons Nat.zero_lt_one <| al_cons ix0_ok <| al_cons Nat.zero_lt_one <| al_cons ix0_ok <| al_cons as3_ok <| al_cons ix0_ok <| al_cons (Nat.le_refl 1) <| al_cons (gr0_ok (by omega)) <| al_cons ix0_ok <| al_cons Nat.zero_lt_one <| al_cons (Nat.le_refl 1) <| al_cons as4_ok <| al_nil) (by kernel_rfl)
theorem nd111111:(((((((tOf).kOf [0]).kOf [0]).kOf [0]).kOf [0]).kOf [0]).kOf [0]).Holds (·=([pa0],0)):=Tr.leaf_holds default (by rw[show (((((((tOf).kOf [0]).kOf [0]).kOf [0]).kOf [0]).kOf [0]).kOf [0]).asksC=[ix0,0<1,ix0,0<1,ix0,as3,ix0,1≤1,gr0 56,ix0,0<1,1≤1,as4] by kernel_rfl];exact al_cons ix0_ok <| al_cons Nat.zero_lt_one <| al_cons ix0_ok <| al_cons Nat.zero_lt_one <| al_cons ix0_ok <| al_cons as3_ok <| al_cons ix0_ok <| al_cons (Nat.le_refl 1) <| al_cons (gr0_ok (by omega)) <| al_cons ix0_ok <| al_cons Nat.zero_lt_one <| al_cons (Nat.le_refl 1) <| al_cons as4_ok <| al_nil) (by kernel_rfl)
theorem nd01111:((((((tOf).kOf []).kOf [0]).kOf [0]).kOf [0]).kOf [0]).Holds (·=([pa0],0)):=Tr.leaf_holds default (by rw[show ((((((tOf).kOf []).kOf [0]).kOf [0]).kOf [0]).kOf [0]).asksC=[ix0,0<1,ix0,0<1,ix0,as3,ix0,1≤1,gr0 56,ix0,0<1,1≤1,as4] by kernel_rfl];exact al_cons ix0_ok <| al_cons Nat.zero_lt_one <| al_cons ix0_ok <| al_cons Nat.zero_lt_one <| al_cons ix0_ok <| al_cons as3_ok <| al_cons ix0_ok <| al_cons (Nat.le_refl 1) <| al_cons (gr0_ok (by omega)) <| al_cons ix0_ok <| al_cons Nat.zero_lt_one <| al_cons (Nat.le_refl 1) <| al_cons as4_ok <| al_nil) (by kernel_rfl)
end Go.Proofs.YthnojkbkojpadaaGreat

namespace Go.Proofs.YthnojkbkojpadaaGreat
open Go.RowKit Go.Sx Go.Lp
set_option maxRecDepth 100000
theorem nd10001110:(((((((((tOf).kOf [0]).kOf []).kOf []).kOf []).kOf [0]).kOf [0]).kOf [0]).kOf []).Holds (·=([pa0],0)):=Tr.leaf_holds default (by rw[show (((((((((tOf).kOf [0]).kOf []).kOf []).kOf []).kOf [0]).kOf [0]).kOf [0]).kOf []).asksC=[ix0,ix0,0<1,ix0,0<1,ix0,as3,1≤1,gr0 56,ix0,0<1,1≤1,as4] by kernel_rfl];exact al_cons ix0_ok <| al_cons ix0_ok <| al_cons Nat.zero_lt_one <| al_cons ix0_ok <| al_cons Nat.zero_lt_one <| al_cons ix0_ok <| al_cons as3_ok <| al_cons (Nat.le_refl 1) <| al_cons (gr0_ok (by omega)) <| al_cons ix0_ok <| al_cons Nat.zero_lt_one <| al_cons (Nat.le_refl 1) <| al_cons as4_ok <| al_nil) (by kernel_rfl)
theorem nd11001110:(((((((((tOf).kOf [0]).kOf [0]).kOf []).kOf []).kOf [0]).kOf [0]).kOf [0]).kOf []).Holds (·=([pa0],0)):=Tr.leaf_holds default (by rw[show (((((((((tOf).kOf [0]).kOf [0]).kOf []).kOf []).kOf [0]).kOf [0]).kOf [0]).kOf []).asksC=[ix0,ix0,0<1,ix0,0<1,ix0,as3,1≤1,gr0 56,ix0,0<1,1≤1,as4] by kernel_rfl];exact al_cons ix0_ok <| al_cons ix0_ok <| al_cons Nat.zero_lt_one <| al_cons ix0_ok <| al_cons Nat.zero_lt_one <| al_cons ix0_ok <| al_cons as3_ok <| al_cons (Nat.le_refl 1) <| al_cons (gr0_ok (by omega)) <| al_cons ix0_ok <| al_cons Nat.zero_lt_one <| al_cons (Nat.le_refl 1) <| al_cons as4_ok <| al_nil) (by kernel_rfl)
theorem nd0001110:((((((((tOf).kOf []).kOf []).kOf []).kOf [0]).kOf [0]).kOf [0]).kOf []).Holds (·=([pa0],0)):=Tr.leaf_holds default (by rw[show ((((((((tOf).kOf []).kOf []).kOf []).kOf [0]).kOf [0]).kOf [0]).kOf []).asksC=[ix0,ix0,0<1,ix0,0<1,ix0,as3,1≤1,gr0 56,ix0,0<1,1≤1,as4] by kernel_rfl];exact al_cons ix0_ok <| al_cons ix0_ok <| al_cons Nat.zero_lt_one <| al_cons ix0_ok <| al_cons Nat.zero_lt_one <| al_cons ix0_ok <| al_cons as3_ok <| al_cons (Nat.le_refl 1) <| al_cons (gr0_ok (by omega)) <| al_cons ix0_ok <| al_cons Nat.zero_lt_one <| al_cons (Nat.le_refl 1) <| al_cons as4_ok <| al_nil) (by kernel_rfl)
theorem nd1000110:((((((((tOf).kOf [0]).kOf []).kOf []).kOf []).kOf [0]).kOf [0]).kOf []).Holds (·=([pa0],0)):=Tr.leaf_holds default (by rw[show ((((((((tOf).kOf [0]).kOf []).kOf []).kOf []).kOf [0]).kOf [0]).kOf []).asksC=[ix0,ix0,0<1,ix0,0<1,as3,ix0,1≤1,gr0 56,ix0,0<1,1≤1,as4] by kernel_rfl];exact al_cons ix0_ok <| al_cons ix0_ok <| al_cons Nat.zero_lt_one <| al_cons ix0_ok <| al_cons Nat.zero_lt_one <| al_cons as3_ok <| al_cons ix0_ok <| al_cons (Nat.le_refl 1) <| al_cons (gr0_ok (by omega)) <| al_cons ix0_ok <| al_cons Nat.zero_lt_one <| al_cons (Nat.le_refl 1) <| al_cons as4_ok <| al_nil) (by kernel_rfl)
theorem nd1101110:((((((((tOf).kOf [0]).kOf [0]).kOf []).kOf [0]).kOf [0]).kOf [0]).kOf []).Holds (·=([pa0],0)):=Tr.leaf_holds default (by rw[show ((((((((tOf).kOf [0]).kOf [0]).kOf []).kOf [0]).kOf [0]).kOf [0]).kOf []).asksC=[ix0,0<1,ix0,0<1,ix0,as3,ix0,1≤1,gr0 56,ix0,0<1,1≤1,as4] by kernel_rfl];exact al_cons ix0_ok <| al_cons Nat.zero_lt_one <| al_cons ix0_ok <| al_cons Nat.zero_lt_one <| al_cons ix0_ok <| al_cons as3_ok <| al_cons ix0_ok <| al_cons (Nat.le_refl 1) <| al_cons (gr0_ok (by omega)) <| al_cons ix0_ok <| al_cons Nat.zero_lt_one <| al_cons (Nat.le_refl 1) <| al_cons as4_ok <| al_nil) (by kernel_rfl)
theorem nd000110:(((((((tOf).kOf []).kOf []).kOf []).kOf [0]).kOf [0]).kOf []).Holds (·=([pa0],0)):=Tr.leaf_holds default (by rw[show (((((((tOf).kOf []).kOf []).kOf []).kOf [0]).kOf [0]).kOf []).asksC=[ix0,ix0,0<1,ix0,0<1,as3,ix0,1≤1,gr0 56,ix0,0<1,1≤1,as4] by kernel_rfl];exact al_cons ix0_ok <| al_cons ix0_ok <| al_cons Nat.zero_lt_one <| al_cons ix0_ok <| al_cons Nat.zero_lt_one <| al_cons as3_ok <| al_cons ix0_ok <| al_cons (Nat.le_refl 1) <| al_cons (gr0_ok (by omega)) <| al_cons ix0_ok <| al_cons Nat.zero_lt_one <| al_cons (Nat.le_refl 1) <| al_cons as4_ok <| al_nil) (by kernel_rfl)
theorem nd100110:(((((((tOf).kOf [0]).kOf []).kOf []).kOf [0]).kOf [0]).kOf []).Holds (·=([pa0],0)):=Tr.leaf_holds default (by rw[show (((((((tOf).kOf [0]).kOf []).kOf []).kOf [0]).kOf [0]).kOf []).asksC=[ix0,0<1,ix0,0<1,as3,ix0,ix0,1≤1,gr0 56,ix0,0<1,1≤1,as4] by kernel_rfl];exact al_cons ix0_ok <| al_cons Nat.zero_lt_one <| al_cons ix0_ok <| al_cons Nat.zero_lt_one <| al_cons as3_ok <| al_cons ix0_ok <| al_cons ix0_ok <| al_cons (Nat.le_refl 1) <| al_cons (gr0_ok (by omega)) <| al_cons ix0_ok <| al_cons Nat.zero_lt_one <| al_cons (Nat.le_refl 1) <| al_cons as4_ok <| al_nil) (by kernel_rfl)
theorem nd110110:(((((((tOf).kOf [0]).kOf [0]).kOf []).kOf [0]).kOf [0]).kOf []).Holds (·=([pa0],0)):=Tr.leaf_holds default (by rw[show (((((((tOf).kOf [0]).kOf [0]).kOf []).kOf [0]).kOf [0]).kOf []).asksC=[ix0,0<1,ix0,0<1,as3,ix0,ix0,1≤1,gr0 56,ix0,0<1,1≤1,as4] by kernel_rfl];exact al_cons ix0_ok <| al_cons Nat.zero_lt_one <| al_cons ix0_ok <| al_cons Nat.zero_lt_one <| al_cons as3_ok <| al_cons ix0_ok <| al_cons ix0_ok <| al_cons (Nat.le_refl 1) <| al_cons (gr0_ok (by omega)) <| al_cons ix0_ok <| al_cons Nat.zero_lt_one <| al_cons (Nat.le_refl 1) <| al_cons as4_ok <| al_nil) (by kernel_rfl)
theorem nd00110:((((((tOf).kOf []).kOf []).kOf [0]).kOf [0]).kOf []).Holds (·=([pa0],0)):=Tr.leaf_holds default (by rw[show ((((((tOf).kOf []).kOf []).kOf [0]).kOf [0]).kOf []).asksC=[ix0,0<1,ix0,0<1,as3,ix0,ix0,1≤1,gr0 56,ix0,0<1,1≤1,as4] by kernel_rfl];exact al_cons ix0_ok <| al_cons Nat.zero_lt_one <| al_cons ix0_ok <| al_cons Nat.zero_lt_one <| al_cons as3_ok <| al_cons ix0_ok <| al_cons ix0_ok <| al_cons (Nat.le_refl 1) <| al_cons (gr0_ok (by omega)) <| al_cons ix0_ok <| al_cons Nat.zero_lt_one <| al_cons (Nat.le_refl 1) <| al_cons as4_ok <| al_nil) (by kernel_rfl)
theorem nd10110:((((((tOf).kOf [0]).kOf []).kOf [0]).kOf [0]).kOf []).Holds (·=([pa0],0)):=Tr.leaf_holds default (by rw[show ((((((tOf).kOf [0]).kOf []).kOf [0]).kOf [0]).kOf []).asksC=[ix0,0<1,ix0,0<1,as3,ix0,ix0,1≤1,gr0 56,ix0,0<1,1≤1,as4] by kernel_rfl];exact al_cons ix0_ok <| al_cons Nat.zero_lt_one <| al_cons ix0_ok <| al_cons Nat.zero_lt_one <| al_cons as3_ok <| al_cons ix0_ok <| al_cons ix0_ok <| al_cons (Nat.le_refl 1) <| al_cons (gr0_ok (by omega)) <| al_cons ix0_ok <| al_cons Nat.zero_lt_one <| al_cons (Nat.le_refl 1) <| al_cons as4_ok <| al_nil) (by kernel_rfl)
theorem nd11010:((((((tOf).kOf [0]).kOf [0]).kOf []).kOf [0]).kOf []).Holds (·=([pa0],0)):=Tr.leaf_holds default (by rw[show ((((((tOf).kOf [0]).kOf [0]).kOf []).kOf [0]).kOf []).asksC=[ix0,0<1,ix0,0<1,as3,ix0,ix0,1≤1,gr0 56,ix0,0<1,1≤1,as4] by kernel_rfl];exact al_cons ix0_ok <| al_cons Nat.zero_lt_one <| al_cons ix0_ok <| al_cons Nat.zero_lt_one <| al_cons as3_ok <| al_cons ix0_ok <| al_cons ix0_ok <| al_cons (Nat.le_refl 1) <| al_cons (gr0_ok (by omega)) <| al_cons ix0_ok <| al_cons Nat.zero_lt_one <| al_cons (Nat.le_refl 1) <| al_cons as4_ok <| al_nil) (by kernel_rfl)
theorem nd0110:(((((tOf).kOf []).kOf [0]).kOf [0]).kOf []).Holds (·=([pa0],0)):=Tr.leaf_holds default (by rw[show (((((tOf).kOf []).kOf [0]).kOf [0]).kOf []).asksC=[ix0,0<1,ix0,0<1,as3,ix0,ix0,1≤1,gr0 56,ix0,0<1,1≤1,as4] by kernel_rfl];exact al_cons ix0_ok <| al_cons Nat.zero_lt_one <| al_cons ix0_ok <| al_cons Nat.zero_lt_one <| al_cons as3_ok <| al_cons ix0_ok <| al_cons ix0_ok <| al_cons (Nat.le_refl 1) <| al_cons (gr0_ok (by omega)) <| al_cons ix0_ok <| al_cons Nat.zero_lt_one <| al_cons (Nat.le_refl 1) <| al_cons as4_ok <| al_nil) (by kernel_rfl)
theorem nd1010:(((((tOf).kOf [0]).kOf []).kOf [0]).kOf []).Holds (·=([pa0],0)):=Tr.leaf_holds default (by rw[show (((((tOf).kOf [0]).kOf []).kOf [0]).kOf []).asksC=[ix0,0<1,ix0,0<1,as3,ix0,ix0,1≤1,gr0 56,ix0,0<1,1≤1,as4] by kernel_rfl];exact al_cons ix0_ok <| al_cons Nat.zero_lt_one <| al_cons ix0_ok <| al_cons Nat.zero_lt_one <| al_cons as3_ok <| al_cons ix0_ok <| al_cons ix0_ok <| al_cons (Nat.le_refl 1) <| al_cons (gr0_ok (by omega)) <| al_cons ix0_ok <| al_cons Nat.zero_lt_one <| al_cons (Nat.le_refl 1) <| al_cons as4_ok <| al_nil) (by kernel_rfl)
theorem nd1110:(((((tOf).kOf [0]).kOf [0]).kOf [0]).kOf []).Holds (·=([pa0],0)):=Tr.leaf_holds default (by rw[show (((((tOf).kOf [0]).kOf [0]).kOf [0]).kOf []).asksC=[ix0,0<1,ix0,0<1,as3,ix0,ix0,1≤1,gr0 56,ix0,0<1,1≤1,as4] by kernel_rfl];exact al_cons ix0_ok <| al_cons Nat.zero_lt_one <| al_cons ix0_ok <| al_cons Nat.zero_lt_one <| al_cons as3_ok <| al_cons ix0_ok <| al_cons ix0_ok <| al_cons (Nat.le_refl 1) <| al_cons (gr0_ok (by omega)) <| al_cons ix0_ok <| al_cons Nat.zero_lt_one <| al_cons (Nat.le_refl 1) <| al_cons as4_ok <| al_nil) (by kernel_rfl)
theorem nd010:((((tOf).kOf []).kOf [0]).kOf []).Holds (·=([pa0],0)):=Tr.leaf_holds default (by rw[show ((((tOf).kOf []).kOf [0]).kOf []).asksC=[ix0,0<1,ix0,0<1,as3,ix0,ix0,1≤1,gr0 56,ix0,0<1,1≤1,as4] by kernel_rfl];exact al_cons ix0_ok <| al_cons Nat.zero_lt_one <| al_cons ix0_ok <| al_cons Nat.zero_lt_one <| al_cons as3_ok <| al_cons ix0_ok <| al_cons ix0_ok <| al_cons (Nat.le_refl 1) <| al_cons (gr0_ok (by omega)) <| al_cons ix0_ok <| al_cons Nat.zero_lt_one <| al_cons (Nat.le_refl 1) <| al_cons as4_ok <| al_nil) (by kernel_rfl)
end Go.Proofs.YthnojkbkojpadaaGreat

namespace Go.Proofs.YthnojkbkojpadaaGreat
open Go.RowKit Go.Sx Go.Lp
set_option maxRecDepth 100000
theorem nd10001111:(((((((((tOf).kOf [0]).kOf []).kOf []).kOf []).kOf [0]).kOf [0]).kOf [0]).kOf [0]).Holds (·=([pa0],0)):=Tr.leaf_holds default (by rw[show (((((((((tOf).kOf [0]).kOf []).kOf []).kOf []).kOf [0]).kOf [0]).kOf [0]).kOf [0]).asksC=[ix0,ix0,0<1,ix0,0<1,ix0,as3,1≤1,gr0 56,ix0,0<1,1≤1,as4] by kernel_rfl];exact al_cons ix0_ok <| al_cons ix0_ok <| al_cons Nat.zero_lt_one <| al_cons ix0_ok <| al_cons Nat.zero_lt_one <| al_cons ix0_ok <| al_cons as3_ok <| al_cons (Nat.le_refl 1) <| al_cons (gr0_ok (by omega)) <| al_cons ix0_ok <| al_cons Nat.zero_lt_one <| al_cons (Nat.le_refl 1) <| al_cons as4_ok <| al_nil) (by kernel_rfl)
theorem nd11001111:(((((((((tOf).kOf [0]).kOf [0]).kOf []).kOf []).kOf [0]).kOf [0]).kOf [0]).kOf [0]).Holds (·=([pa0],0)):=Tr.leaf_holds default (by rw[show (((((((((tOf).kOf [0]).kOf [0]).kOf []).kOf []).kOf [0]).kOf [0]).kOf [0]).kOf [0]).asksC=[ix0,ix0,0<1,ix0,0<1,ix0,as3,1≤1,gr0 56,ix0,0<1,1≤1,as4] by kernel_rfl];exact al_cons ix0_ok <| al_cons ix0_ok <| al_cons Nat.zero_lt_one <| al_cons ix0_ok <| al_cons Nat.zero_lt_one <| al_cons ix0_ok <| al_cons as3_ok <| al_cons (Nat.le_refl 1) <| al_cons (gr0_ok (by omega)) <| al_cons ix0_ok <| al_cons Nat.zero_lt_one <| al_cons (Nat.le_refl 1) <| al_cons as4_ok <| al_nil) (by kernel_rfl)
theorem nd0001111:((((((((tOf).kOf []).kOf []).kOf []).kOf [0]).kOf [0]).kOf [0]).kOf [0]).Holds (·=([pa0],0)):=Tr.leaf_holds default (by rw[show ((((((((tOf).kOf []).kOf []).kOf []).kOf [0]).kOf [0]).kOf [0]).kOf [0]).asksC=[ix0,ix0,0<1,ix0,0<1,ix0,as3,1≤1,gr0 56,ix0,0<1,1≤1,as4] by kernel_rfl];exact al_cons ix0_ok <| al_cons ix0_ok <| al_cons Nat.zero_lt_one <| al_cons ix0_ok <| al_cons Nat.zero_lt_one <| al_cons ix0_ok <| al_cons as3_ok <| al_cons (Nat.le_refl 1) <| al_cons (gr0_ok (by omega)) <| al_cons ix0_ok <| al_cons Nat.zero_lt_one <| al_cons (Nat.le_refl 1) <| al_cons as4_ok <| al_nil) (by kernel_rfl)
theorem nd1100001:((((((((tOf).kOf [0]).kOf [0]).kOf []).kOf []).kOf []).kOf []).kOf [0]).Holds (·=([pa0],0)):=Tr.leaf_holds default (by rw[show ((((((((tOf).kOf [0]).kOf [0]).kOf []).kOf []).kOf []).kOf []).kOf [0]).asksC=[ix0,ix0,0<1,ix0,0<1,as3,ix0,1≤1,gr0 56,ix0,0<1,1≤1,as4] by kernel_rfl];exact al_cons ix0_ok <| al_cons ix0_ok <| al_cons Nat.zero_lt_one <| al_cons ix0_ok <| al_cons Nat.zero_lt_one <| al_cons as3_ok <| al_cons ix0_ok <| al_cons (Nat.le_refl 1) <| al_cons (gr0_ok (by omega)) <| al_cons ix0_ok <| al_cons Nat.zero_lt_one <| al_cons (Nat.le_refl 1) <| al_cons as4_ok <| al_nil) (by kernel_rfl)
theorem nd1101111:((((((((tOf).kOf [0]).kOf [0]).kOf []).kOf [0]).kOf [0]).kOf [0]).kOf [0]).Holds (·=([pa0],0)):=Tr.leaf_holds default (by rw[show ((((((((tOf).kOf [0]).kOf [0]).kOf []).kOf [0]).kOf [0]).kOf [0]).kOf [0]).asksC=[ix0,0<1,ix0,0<1,ix0,as3,ix0,1≤1,gr0 56,ix0,0<1,1≤1,as4] by kernel_rfl];exact al_cons ix0_ok <| al_cons Nat.zero_lt_one <| al_cons ix0_ok <| al_cons Nat.zero_lt_one <| al_cons ix0_ok <| al_cons as3_ok <| al_cons ix0_ok <| al_cons (Nat.le_refl 1) <| al_cons (gr0_ok (by omega)) <| al_cons ix0_ok <| al_cons Nat.zero_lt_one <| al_cons (Nat.le_refl 1) <| al_cons as4_ok <| al_nil) (by kernel_rfl)
theorem nd100001:(((((((tOf).kOf [0]).kOf []).kOf []).kOf []).kOf []).kOf [0]).Holds (·=([pa0],0)):=Tr.leaf_holds default (by rw[show (((((((tOf).kOf [0]).kOf []).kOf []).kOf []).kOf []).kOf [0]).asksC=[ix0,ix0,0<1,ix0,0<1,as3,ix0,1≤1,gr0 56,ix0,0<1,1≤1,as4] by kernel_rfl];exact al_cons ix0_ok <| al_cons ix0_ok <| al_cons Nat.zero_lt_one <| al_cons ix0_ok <| al_cons Nat.zero_lt_one <| al_cons as3_ok <| al_cons ix0_ok <| al_cons (Nat.le_refl 1) <| al_cons (gr0_ok (by omega)) <| al_cons ix0_ok <| al_cons Nat.zero_lt_one <| al_cons (Nat.le_refl 1) <| al_cons as4_ok <| al_nil) (by kernel_rfl)
theorem nd110001:(((((((tOf).kOf [0]).kOf [0]).kOf []).kOf []).kOf []).kOf [0]).Holds (·=([pa0],0)):=Tr.leaf_holds default (by rw[show (((((((tOf).kOf [0]).kOf [0]).kOf []).kOf []).kOf []).kOf [0]).asksC=[ix0,ix0,0<1,ix0,0<1,as3,ix0,1≤1,gr0 56,ix0,0<1,1≤1,as4] by kernel_rfl];exact al_cons ix0_ok <| al_cons ix0_ok <| al_cons Nat.zero_lt_one <| al_cons ix0_ok <| al_cons Nat.zero_lt_one <| al_cons as3_ok <| al_cons ix0_ok <| al_cons (Nat.le_refl 1) <| al_cons (gr0_ok (by omega)) <| al_cons ix0_ok <| al_cons Nat.zero_lt_one <| al_cons (Nat.le_refl 1) <| al_cons as4_ok <| al_nil) (by kernel_rfl)
theorem nd00001:((((((tOf).kOf []).kOf []).kOf []).kOf []).kOf [0]).Holds (·=([pa0],0)):=Tr.leaf_holds default (by rw[show ((((((tOf).kOf []).kOf []).kOf []).kOf []).kOf [0]).asksC=[ix0,ix0,0<1,ix0,0<1,as3,ix0,1≤1,gr0 56,ix0,0<1,1≤1,as4] by kernel_rfl];exact al_cons ix0_ok <| al_cons ix0_ok <| al_cons Nat.zero_lt_one <| al_cons ix0_ok <| al_cons Nat.zero_lt_one <| al_cons as3_ok <| al_cons ix0_ok <| al_cons (Nat.le_refl 1) <| al_cons (gr0_ok (by omega)) <| al_cons ix0_ok <| al_cons Nat.zero_lt_one <| al_cons (Nat.le_refl 1) <| al_cons as4_ok <| al_nil) (by kernel_rfl)
end Go.Proofs.YthnojkbkojpadaaGreat

namespace Go.Proofs.YthnojkbkojpadaaGreat
open Go.RowKit Go.Sx Go.Lp
set_option maxRecDepth 100000
theorem nd1000000f:((((((((tOf).kOf [0]).kOf []).kOf []).kOf []).kOf []).kOf []).kOf []).isAll=true∧(∀ p∈((((((((tOf).kOf [0]).kOf []).kOf []).kOf []).kOf []).kOf []).kOf []).asks1,p)∧∀ (x:Nat) (n:List Nat),((((((((tOf).kOf [0]).kOf []).kOf []).kOf []).kOf []).kOf []).kOf []).kOf (x :: n)=((((((((tOf).kOf [0]).kOf []).kOf []).kOf []).kOf []).kOf []).kOf []).kOf [0]:=⟨by kernel_rfl,(by rw[show ((((((((tOf).kOf [0]).kOf []).kOf []).kOf []).kOf []).kOf []).kOf []).asks1=[] by kernel_rfl];exact al_nil),fun x n=>by kernel_rfl⟩
theorem nd1100000f:((((((((tOf).kOf [0]).kOf [0]).kOf []).kOf []).kOf []).kOf []).kOf []).isAll=true∧(∀ p∈((((((((tOf).kOf [0]).kOf [0]).kOf []).kOf []).kOf []).kOf []).kOf []).asks1,p)∧∀ (x:Nat) (n:List Nat),((((((((tOf).kOf [0]).kOf [0]).kOf []).kOf []).kOf []).kOf []).kOf []).kOf (x :: n)=((((((((tOf).kOf [0]).kOf [0]).kOf []).kOf []).kOf []).kOf []).kOf []).kOf [0]:=⟨by kernel_rfl,(by rw[show ((((((((tOf).kOf [0]).kOf [0]).kOf []).kOf []).kOf []).kOf []).kOf []).asks1=[] by kernel_rfl];exact al_nil),fun x n=>by kernel_rfl⟩
theorem nd000000f:(((((((tOf).kOf []).kOf []).kOf []).kOf []).kOf []).kOf []).isAll=true∧(∀ p∈(((((((tOf).kOf []).kOf []).kOf []).kOf []).kOf []).kOf []).asks1,p)∧∀ (x:Nat) (n:List Nat),(((((((tOf).kOf []).kOf []).kOf []).kOf []).kOf []).kOf []).kOf (x :: n)=(((((((tOf).kOf []).kOf []).kOf []).kOf []).kOf []).kOf []).kOf [0]:=⟨by kernel_rfl,(by rw[show (((((((tOf).kOf []).kOf []).kOf []).kOf []).kOf []).kOf []).asks1=[] by kernel_rfl];exact al_nil),fun x n=>by kernel_rfl⟩
theorem nd100000f:(((((((tOf).kOf [0]).kOf []).kOf []).kOf []).kOf []).kOf []).isAll=true∧(∀ p∈(((((((tOf).kOf [0]).kOf []).kOf []).kOf []).kOf []).kOf []).asks1,p)∧∀ (x:Nat) (n:List Nat),(((((((tOf).kOf [0]).kOf []).kOf []).kOf []).kOf []).kOf []).kOf (x :: n)=(((((((tOf).kOf [0]).kOf []).kOf []).kOf []).kOf []).kOf []).kOf [0]:=⟨by kernel_rfl,(by rw[show (((((((tOf).kOf [0]).kOf []).kOf []).kOf []).kOf []).kOf []).asks1=[] by kernel_rfl];exact al_nil),fun x n=>by kernel_rfl⟩
theorem nd10000f:((((((tOf).kOf [0]).kOf []).kOf []).kOf []).kOf []).isAll=true∧(∀ p∈((((((tOf).kOf [0]).kOf []).kOf []).kOf []).kOf []).asks1,p)∧∀ (x:Nat) (n:List Nat),((((((tOf).kOf [0]).kOf []).kOf []).kOf []).kOf []).kOf (x :: n)=((((((tOf).kOf [0]).kOf []).kOf []).kOf []).kOf []).kOf [0]:=⟨by kernel_rfl,(by rw[show ((((((tOf).kOf [0]).kOf []).kOf []).kOf []).kOf []).asks1=[] by kernel_rfl];exact al_nil),fun x n=>by kernel_rfl⟩
theorem nd11000f:((((((tOf).kOf [0]).kOf [0]).kOf []).kOf []).kOf []).isAll=true∧(∀ p∈((((((tOf).kOf [0]).kOf [0]).kOf []).kOf []).kOf []).asks1,p)∧∀ (x:Nat) (n:List Nat),((((((tOf).kOf [0]).kOf [0]).kOf []).kOf []).kOf []).kOf (x :: n)=((((((tOf).kOf [0]).kOf [0]).kOf []).kOf []).kOf []).kOf [0]:=⟨by kernel_rfl,(by rw[show ((((((tOf).kOf [0]).kOf [0]).kOf []).kOf []).kOf []).asks1=[] by kernel_rfl];exact al_nil),fun x n=>by kernel_rfl⟩
theorem nd0000f:(((((tOf).kOf []).kOf []).kOf []).kOf []).isAll=true∧(∀ p∈(((((tOf).kOf []).kOf []).kOf []).kOf []).asks1,p)∧∀ (x:Nat) (n:List Nat),(((((tOf).kOf []).kOf []).kOf []).kOf []).kOf (x :: n)=(((((tOf).kOf []).kOf []).kOf []).kOf []).kOf [0]:=⟨by kernel_rfl,(by rw[show (((((tOf).kOf []).kOf []).kOf []).kOf []).asks1=[] by kernel_rfl];exact al_nil),fun x n=>by kernel_rfl⟩
theorem nd1000f:(((((tOf).kOf [0]).kOf []).kOf []).kOf []).isAll=true∧(∀ p∈(((((tOf).kOf [0]).kOf []).kOf []).kOf []).asks1,p)∧∀ (x:Nat) (n:List Nat),(((((tOf).kOf [0]).kOf []).kOf []).kOf []).kOf (x :: n)=(((((tOf).kOf [0]).kOf []).kOf []).kOf []).kOf [0]:=⟨by kernel_rfl,(by rw[show (((((tOf).kOf [0]).kOf []).kOf []).kOf []).asks1=[] by kernel_rfl];exact al_nil),fun x n=>by kernel_rfl⟩
theorem nd100f:((((tOf).kOf [0]).kOf []).kOf []).isAll=true∧(∀ p∈((((tOf).kOf [0]).kOf []).kOf []).asks1,p)∧∀ (x:Nat) (n:List Nat),((((tOf).kOf [0]).kOf []).kOf []).kOf (x :: n)=((((tOf).kOf [0]).kOf []).kOf []).kOf [0]:=⟨by kernel_rfl,(by rw[show ((((tOf).kOf [0]).kOf []).kOf []).asks1=[] by kernel_rfl];exact al_nil),fun x n=>by kernel_rfl⟩
theorem nd10f:(((tOf).kOf [0]).kOf []).isAll=true∧(∀ p∈(((tOf).kOf [0]).kOf []).asks1,p)∧∀ (x:Nat) (n:List Nat),(((tOf).kOf [0]).kOf []).kOf (x :: n)=(((tOf).kOf [0]).kOf []).kOf [0]:=⟨by kernel_rfl,(by rw[show (((tOf).kOf [0]).kOf []).asks1=[as1,gr0 24,ix0,1≤1,as2,ix0,0<1,ix0,1≤1,as2,ix0,ix0,0<1,ix0,0<1,ix0,0<1,ix0,0<1] by kernel_rfl];exact al_cons as1_ok <| al_cons (gr0_ok (by omega)) <| al_cons ix0_ok <| al_cons (Nat.le_refl 1) <| al_cons as2_ok <| al_cons ix0_ok <| al_cons Nat.zero_lt_one <| al_cons ix0_ok <| al_cons (Nat.le_refl 1) <| al_cons as2_ok <| al_cons ix0_ok <| al_cons ix0_ok <| al_cons Nat.zero_lt_one <| al_cons ix0_ok <| al_cons Nat.zero_lt_one <| al_cons ix0_ok <| al_cons Nat.zero_lt_one <| al_cons ix0_ok <| al_cons Nat.zero_lt_one <| al_nil),fun x n=>by kernel_rfl⟩
end Go.Proofs.YthnojkbkojpadaaGreat

namespace Go.Proofs.YthnojkbkojpadaaGreat
open Go.RowKit Go.Sx Go.Lp
set_option maxRecDepth 100000
theorem nd110111f:(((((((tOf).kOf [0]).kOf [0]).kOf []).kOf [0]).kOf [0]).kOf [0]).isAll=true∧(∀ p∈(((((((tOf).kOf [0]).kOf [0]).kOf []).kOf [0]).kOf [0]).kOf [0]).asks1,p)∧∀ (x:Nat) (n:List Nat),(((((((tOf).kOf [0]).kOf [0]).kOf []).kOf [0]).kOf [0]).kOf [0]).kOf (x :: n)=(((((((tOf).kOf [0]).kOf [0]).kOf []).kOf [0]).kOf [0]).kOf [0]).kOf [0]:=⟨by kernel_rfl,(by rw[show (((((((tOf).kOf [0]).kOf [0]).kOf []).kOf [0]).kOf [0]).kOf [0]).asks1=[] by kernel_rfl];exact al_nil),fun x n=>by kernel_rfl⟩
theorem nd00011f:((((((tOf).kOf []).kOf []).kOf []).kOf [0]).kOf [0]).isAll=true∧(∀ p∈((((((tOf).kOf []).kOf []).kOf []).kOf [0]).kOf [0]).asks1,p)∧∀ (x:Nat) (n:List Nat),((((((tOf).kOf []).kOf []).kOf []).kOf [0]).kOf [0]).kOf (x :: n)=((((((tOf).kOf []).kOf []).kOf []).kOf [0]).kOf [0]).kOf [0]:=⟨by kernel_rfl,(by rw[show ((((((tOf).kOf []).kOf []).kOf []).kOf [0]).kOf [0]).asks1=[] by kernel_rfl];exact al_nil),fun x n=>by kernel_rfl⟩
theorem nd10001f:((((((tOf).kOf [0]).kOf []).kOf []).kOf []).kOf [0]).isAll=true∧(∀ p∈((((((tOf).kOf [0]).kOf []).kOf []).kOf []).kOf [0]).asks1,p)∧∀ (x:Nat) (n:List Nat),((((((tOf).kOf [0]).kOf []).kOf []).kOf []).kOf [0]).kOf (x :: n)=((((((tOf).kOf [0]).kOf []).kOf []).kOf []).kOf [0]).kOf [0]:=⟨by kernel_rfl,(by rw[show ((((((tOf).kOf [0]).kOf []).kOf []).kOf []).kOf [0]).asks1=[] by kernel_rfl];exact al_nil),fun x n=>by kernel_rfl⟩
theorem nd11001f:((((((tOf).kOf [0]).kOf [0]).kOf []).kOf []).kOf [0]).isAll=true∧(∀ p∈((((((tOf).kOf [0]).kOf [0]).kOf []).kOf []).kOf [0]).asks1,p)∧∀ (x:Nat) (n:List Nat),((((((tOf).kOf [0]).kOf [0]).kOf []).kOf []).kOf [0]).kOf (x :: n)=((((((tOf).kOf [0]).kOf [0]).kOf []).kOf []).kOf [0]).kOf [0]:=⟨by kernel_rfl,(by rw[show ((((((tOf).kOf [0]).kOf [0]).kOf []).kOf []).kOf [0]).asks1=[] by kernel_rfl];exact al_nil),fun x n=>by kernel_rfl⟩
theorem nd0001f:(((((tOf).kOf []).kOf []).kOf []).kOf [0]).isAll=true∧(∀ p∈(((((tOf).kOf []).kOf []).kOf []).kOf [0]).asks1,p)∧∀ (x:Nat) (n:List Nat),(((((tOf).kOf []).kOf []).kOf []).kOf [0]).kOf (x :: n)=(((((tOf).kOf []).kOf []).kOf []).kOf [0]).kOf [0]:=⟨by kernel_rfl,(by rw[show (((((tOf).kOf []).kOf []).kOf []).kOf [0]).asks1=[] by kernel_rfl];exact al_nil),fun x n=>by kernel_rfl⟩
theorem nd1001f:(((((tOf).kOf [0]).kOf []).kOf []).kOf [0]).isAll=true∧(∀ p∈(((((tOf).kOf [0]).kOf []).kOf []).kOf [0]).asks1,p)∧∀ (x:Nat) (n:List Nat),(((((tOf).kOf [0]).kOf []).kOf []).kOf [0]).kOf (x :: n)=(((((tOf).kOf [0]).kOf []).kOf []).kOf [0]).kOf [0]:=⟨by kernel_rfl,(by rw[show (((((tOf).kOf [0]).kOf []).kOf []).kOf [0]).asks1=[] by kernel_rfl];exact al_nil),fun x n=>by kernel_rfl⟩
theorem nd1111f:(((((tOf).kOf [0]).kOf [0]).kOf [0]).kOf [0]).isAll=true∧(∀ p∈(((((tOf).kOf [0]).kOf [0]).kOf [0]).kOf [0]).asks1,p)∧∀ (x:Nat) (n:List Nat),(((((tOf).kOf [0]).kOf [0]).kOf [0]).kOf [0]).kOf (x :: n)=(((((tOf).kOf [0]).kOf [0]).kOf [0]).kOf [0]).kOf [0]:=⟨by kernel_rfl,(by rw[show (((((tOf).kOf [0]).kOf [0]).kOf [0]).kOf [0]).asks1=[] by kernel_rfl];exact al_nil),fun x n=>by kernel_rfl⟩
theorem nd101f:((((tOf).kOf [0]).kOf []).kOf [0]).isAll=true∧(∀ p∈((((tOf).kOf [0]).kOf []).kOf [0]).asks1,p)∧∀ (x:Nat) (n:List Nat),((((tOf).kOf [0]).kOf []).kOf [0]).kOf (x :: n)=((((tOf).kOf [0]).kOf []).kOf [0]).kOf [0]:=⟨by kernel_rfl,(by rw[show ((((tOf).kOf [0]).kOf []).kOf [0]).asks1=[] by kernel_rfl];exact al_nil),fun x n=>by kernel_rfl⟩
theorem nd11f:(((tOf).kOf [0]).kOf [0]).isAll=true∧(∀ p∈(((tOf).kOf [0]).kOf [0]).asks1,p)∧∀ (x:Nat) (n:List Nat),(((tOf).kOf [0]).kOf [0]).kOf (x :: n)=(((tOf).kOf [0]).kOf [0]).kOf [0]:=⟨by kernel_rfl,(by rw[show (((tOf).kOf [0]).kOf [0]).asks1=[as1,gr0 24,ix0,1≤1,as2,ix0,0<1,ix0,1≤1,as2,ix0,ix0,0<1,ix0,0<1,ix0,0<1,ix0,0<1] by kernel_rfl];exact al_cons as1_ok <| al_cons (gr0_ok (by omega)) <| al_cons ix0_ok <| al_cons (Nat.le_refl 1) <| al_cons as2_ok <| al_cons ix0_ok <| al_cons Nat.zero_lt_one <| al_cons ix0_ok <| al_cons (Nat.le_refl 1) <| al_cons as2_ok <| al_cons ix0_ok <| al_cons ix0_ok <| al_cons Nat.zero_lt_one <| al_cons ix0_ok <| al_cons Nat.zero_lt_one <| al_cons ix0_ok <| al_cons Nat.zero_lt_one <| al_cons ix0_ok <| al_cons Nat.zero_lt_one <| al_nil),fun x n=>by kernel_rfl⟩
end Go.Proofs.YthnojkbkojpadaaGreat

namespace Go.Proofs.YthnojkbkojpadaaGreat
open Go.RowKit Go.Sx Go.Lp
set_option maxRecDepth 100000
theorem nd110000f:(((((((tOf).kOf [0]).kOf [0]).kOf []).kOf []).kOf []).kOf []).isAll=true∧(∀ p∈(((((((tOf).kOf [0]).kOf [0]).kOf []).kOf []).kOf []).kOf []).asks1,p)∧∀ (x:Nat) (n:List Nat),(((((((tOf).kOf [0]).kOf [0]).kOf []).kOf []).kOf []).kOf []).kOf (x :: n)=(((((((tOf).kOf [0]).kOf [0]).kOf []).kOf []).kOf []).kOf []).kOf [0]:=⟨by kernel_rfl,(by rw[show (((((((tOf).kOf [0]).kOf [0]).kOf []).kOf []).kOf []).kOf []).asks1=[] by kernel_rfl];exact al_nil),fun x n=>by kernel_rfl⟩
theorem nd000f:((((tOf).kOf []).kOf []).kOf []).isAll=true∧(∀ p∈((((tOf).kOf []).kOf []).kOf []).asks1,p)∧∀ (x:Nat) (n:List Nat),((((tOf).kOf []).kOf []).kOf []).kOf (x :: n)=((((tOf).kOf []).kOf []).kOf []).kOf [0]:=⟨by kernel_rfl,(by rw[show ((((tOf).kOf []).kOf []).kOf []).asks1=[] by kernel_rfl];exact al_nil),fun x n=>by kernel_rfl⟩
theorem nd110f:((((tOf).kOf [0]).kOf [0]).kOf []).isAll=true∧(∀ p∈((((tOf).kOf [0]).kOf [0]).kOf []).asks1,p)∧∀ (x:Nat) (n:List Nat),((((tOf).kOf [0]).kOf [0]).kOf []).kOf (x :: n)=((((tOf).kOf [0]).kOf [0]).kOf []).kOf [0]:=⟨by kernel_rfl,(by rw[show ((((tOf).kOf [0]).kOf [0]).kOf []).asks1=[] by kernel_rfl];exact al_nil),fun x n=>by kernel_rfl⟩
theorem nd0f:((tOf).kOf []).isAll=true∧(∀ p∈((tOf).kOf []).asks1,p)∧∀ (x:Nat) (n:List Nat),((tOf).kOf []).kOf (x :: n)=((tOf).kOf []).kOf [0]:=⟨by kernel_rfl,(by rw[show ((tOf).kOf []).asks1=[as1,gr0 24,ix0,1≤1,as2,ix0,0<1,ix0,1≤1,as2,ix0,ix0,0<1,ix0,0<1,ix0,0<1,ix0,0<1] by kernel_rfl];exact al_cons as1_ok <| al_cons (gr0_ok (by omega)) <| al_cons ix0_ok <| al_cons (Nat.le_refl 1) <| al_cons as2_ok <| al_cons ix0_ok <| al_cons Nat.zero_lt_one <| al_cons ix0_ok <| al_cons (Nat.le_refl 1) <| al_cons as2_ok <| al_cons ix0_ok <| al_cons ix0_ok <| al_cons Nat.zero_lt_one <| al_cons ix0_ok <| al_cons Nat.zero_lt_one <| al_cons ix0_ok <| al_cons Nat.zero_lt_one <| al_cons ix0_ok <| al_cons Nat.zero_lt_one <| al_nil),fun x n=>by kernel_rfl⟩
end Go.Proofs.YthnojkbkojpadaaGreat

namespace Go.Proofs.YthnojkbkojpadaaGreat
open Go.RowKit Go.Sx Go.Lp
set_option maxRecDepth 100000
theorem nd1000111f:((((((((tOf).kOf [0]).kOf []).kOf []).kOf []).kOf [0]).kOf [0]).kOf [0]).isAll=true∧(∀ p∈((((((((tOf).kOf [0]).kOf []).kOf []).kOf []).kOf [0]).kOf [0]).kOf [0]).asks1,p)∧∀ (x:Nat) (n:List Nat),((((((((tOf).kOf [0]).kOf []).kOf []).kOf []).kOf [0]).kOf [0]).kOf [0]).kOf (x :: n)=((((((((tOf).kOf [0]).kOf []).kOf []).kOf []).kOf [0]).kOf [0]).kOf [0]).kOf [0]:=⟨by kernel_rfl,(by rw[show ((((((((tOf).kOf [0]).kOf []).kOf []).kOf []).kOf [0]).kOf [0]).kOf [0]).asks1=[] by kernel_rfl];exact al_nil),fun x n=>by kernel_rfl⟩
theorem nd1100111f:((((((((tOf).kOf [0]).kOf [0]).kOf []).kOf []).kOf [0]).kOf [0]).kOf [0]).isAll=true∧(∀ p∈((((((((tOf).kOf [0]).kOf [0]).kOf []).kOf []).kOf [0]).kOf [0]).kOf [0]).asks1,p)∧∀ (x:Nat) (n:List Nat),((((((((tOf).kOf [0]).kOf [0]).kOf []).kOf []).kOf [0]).kOf [0]).kOf [0]).kOf (x :: n)=((((((((tOf).kOf [0]).kOf [0]).kOf []).kOf []).kOf [0]).kOf [0]).kOf [0]).kOf [0]:=⟨by kernel_rfl,(by rw[show ((((((((tOf).kOf [0]).kOf [0]).kOf []).kOf []).kOf [0]).kOf [0]).kOf [0]).asks1=[] by kernel_rfl];exact al_nil),fun x n=>by kernel_rfl⟩
theorem nd000111f:(((((((tOf).kOf []).kOf []).kOf []).kOf [0]).kOf [0]).kOf [0]).isAll=true∧(∀ p∈(((((((tOf).kOf []).kOf []).kOf []).kOf [0]).kOf [0]).kOf [0]).asks1,p)∧∀ (x:Nat) (n:List Nat),(((((((tOf).kOf []).kOf []).kOf []).kOf [0]).kOf [0]).kOf [0]).kOf (x :: n)=(((((((tOf).kOf []).kOf []).kOf []).kOf [0]).kOf [0]).kOf [0]).kOf [0]:=⟨by kernel_rfl,(by rw[show (((((((tOf).kOf []).kOf []).kOf []).kOf [0]).kOf [0]).kOf [0]).asks1=[] by kernel_rfl];exact al_nil),fun x n=>by kernel_rfl⟩
theorem nd100011f:(((((((tOf).kOf [0]).kOf []).kOf []).kOf []).kOf [0]).kOf [0]).isAll=true∧(∀ p∈(((((((tOf).kOf [0]).kOf []).kOf []).kOf []).kOf [0]).kOf [0]).asks1,p)∧∀ (x:Nat) (n:List Nat),(((((((tOf).kOf [0]).kOf []).kOf []).kOf []).kOf [0]).kOf [0]).kOf (x :: n)=(((((((tOf).kOf [0]).kOf []).kOf []).kOf []).kOf [0]).kOf [0]).kOf [0]:=⟨by kernel_rfl,(by rw[show (((((((tOf).kOf [0]).kOf []).kOf []).kOf []).kOf [0]).kOf [0]).asks1=[] by kernel_rfl];exact al_nil),fun x n=>by kernel_rfl⟩
theorem nd00111f:((((((tOf).kOf []).kOf []).kOf [0]).kOf [0]).kOf [0]).isAll=true∧(∀ p∈((((((tOf).kOf []).kOf []).kOf [0]).kOf [0]).kOf [0]).asks1,p)∧∀ (x:Nat) (n:List Nat),((((((tOf).kOf []).kOf []).kOf [0]).kOf [0]).kOf [0]).kOf (x :: n)=((((((tOf).kOf []).kOf []).kOf [0]).kOf [0]).kOf [0]).kOf [0]:=⟨by kernel_rfl,(by rw[show ((((((tOf).kOf []).kOf []).kOf [0]).kOf [0]).kOf [0]).asks1=[] by kernel_rfl];exact al_nil),fun x n=>by kernel_rfl⟩
theorem nd10011f:((((((tOf).kOf [0]).kOf []).kOf []).kOf [0]).kOf [0]).isAll=true∧(∀ p∈((((((tOf).kOf [0]).kOf []).kOf []).kOf [0]).kOf [0]).asks1,p)∧∀ (x:Nat) (n:List Nat),((((((tOf).kOf [0]).kOf []).kOf []).kOf [0]).kOf [0]).kOf (x :: n)=((((((tOf).kOf [0]).kOf []).kOf []).kOf [0]).kOf [0]).kOf [0]:=⟨by kernel_rfl,(by rw[show ((((((tOf).kOf [0]).kOf []).kOf []).kOf [0]).kOf [0]).asks1=[] by kernel_rfl];exact al_nil),fun x n=>by kernel_rfl⟩
theorem nd11011f:((((((tOf).kOf [0]).kOf [0]).kOf []).kOf [0]).kOf [0]).isAll=true∧(∀ p∈((((((tOf).kOf [0]).kOf [0]).kOf []).kOf [0]).kOf [0]).asks1,p)∧∀ (x:Nat) (n:List Nat),((((((tOf).kOf [0]).kOf [0]).kOf []).kOf [0]).kOf [0]).kOf (x :: n)=((((((tOf).kOf [0]).kOf [0]).kOf []).kOf [0]).kOf [0]).kOf [0]:=⟨by kernel_rfl,(by rw[show ((((((tOf).kOf [0]).kOf [0]).kOf []).kOf [0]).kOf [0]).asks1=[] by kernel_rfl];exact al_nil),fun x n=>by kernel_rfl⟩
theorem nd0011f:(((((tOf).kOf []).kOf []).kOf [0]).kOf [0]).isAll=true∧(∀ p∈(((((tOf).kOf []).kOf []).kOf [0]).kOf [0]).asks1,p)∧∀ (x:Nat) (n:List Nat),(((((tOf).kOf []).kOf []).kOf [0]).kOf [0]).kOf (x :: n)=(((((tOf).kOf []).kOf []).kOf [0]).kOf [0]).kOf [0]:=⟨by kernel_rfl,(by rw[show (((((tOf).kOf []).kOf []).kOf [0]).kOf [0]).asks1=[] by kernel_rfl];exact al_nil),fun x n=>by kernel_rfl⟩
theorem nd1011f:(((((tOf).kOf [0]).kOf []).kOf [0]).kOf [0]).isAll=true∧(∀ p∈(((((tOf).kOf [0]).kOf []).kOf [0]).kOf [0]).asks1,p)∧∀ (x:Nat) (n:List Nat),(((((tOf).kOf [0]).kOf []).kOf [0]).kOf [0]).kOf (x :: n)=(((((tOf).kOf [0]).kOf []).kOf [0]).kOf [0]).kOf [0]:=⟨by kernel_rfl,(by rw[show (((((tOf).kOf [0]).kOf []).kOf [0]).kOf [0]).asks1=[] by kernel_rfl];exact al_nil),fun x n=>by kernel_rfl⟩
theorem nd001f:((((tOf).kOf []).kOf []).kOf [0]).isAll=true∧(∀ p∈((((tOf).kOf []).kOf []).kOf [0]).asks1,p)∧∀ (x:Nat) (n:List Nat),((((tOf).kOf []).kOf []).kOf [0]).kOf (x :: n)=((((tOf).kOf []).kOf []).kOf [0]).kOf [0]:=⟨by kernel_rfl,(by rw[show ((((tOf).kOf []).kOf []).kOf [0]).asks1=[] by kernel_rfl];exact al_nil),fun x n=>by kernel_rfl⟩
theorem nd111f:((((tOf).kOf [0]).kOf [0]).kOf [0]).isAll=true∧(∀ p∈((((tOf).kOf [0]).kOf [0]).kOf [0]).asks1,p)∧∀ (x:Nat) (n:List Nat),((((tOf).kOf [0]).kOf [0]).kOf [0]).kOf (x :: n)=((((tOf).kOf [0]).kOf [0]).kOf [0]).kOf [0]:=⟨by kernel_rfl,(by rw[show ((((tOf).kOf [0]).kOf [0]).kOf [0]).asks1=[] by kernel_rfl];exact al_nil),fun x n=>by kernel_rfl⟩
theorem nd1f:((tOf).kOf [0]).isAll=true∧(∀ p∈((tOf).kOf [0]).asks1,p)∧∀ (x:Nat) (n:List Nat),((tOf).kOf [0]).kOf (x :: n)=((tOf).kOf [0]).kOf [0]:=⟨by kernel_rfl,(by rw[show ((tOf).kOf [0]).asks1=[] by kernel_rfl];exact al_nil),fun x n=>by kernel_rfl⟩
end Go.Proofs.YthnojkbkojpadaaGreat

namespace Go.Proofs.YthnojkbkojpadaaGreat
open Go.RowKit Go.Sx Go.Lp
set_option maxRecDepth 100000
theorem nd00000f:((((((tOf).kOf []).kOf []).kOf []).kOf []).kOf []).isAll=true∧(∀ p∈((((((tOf).kOf []).kOf []).kOf []).kOf []).kOf []).asks1,p)∧∀ (x:Nat) (n:List Nat),((((((tOf).kOf []).kOf []).kOf []).kOf []).kOf []).kOf (x :: n)=((((((tOf).kOf []).kOf []).kOf []).kOf []).kOf []).kOf [0]:=⟨by kernel_rfl,(by rw[show ((((((tOf).kOf []).kOf []).kOf []).kOf []).kOf []).asks1=[] by kernel_rfl];exact al_nil),fun x n=>by kernel_rfl⟩
theorem nd1100f:(((((tOf).kOf [0]).kOf [0]).kOf []).kOf []).isAll=true∧(∀ p∈(((((tOf).kOf [0]).kOf [0]).kOf []).kOf []).asks1,p)∧∀ (x:Nat) (n:List Nat),(((((tOf).kOf [0]).kOf [0]).kOf []).kOf []).kOf (x :: n)=(((((tOf).kOf [0]).kOf [0]).kOf []).kOf []).kOf [0]:=⟨by kernel_rfl,(by rw[show (((((tOf).kOf [0]).kOf [0]).kOf []).kOf []).asks1=[] by kernel_rfl];exact al_nil),fun x n=>by kernel_rfl⟩
theorem nd00f:(((tOf).kOf []).kOf []).isAll=true∧(∀ p∈(((tOf).kOf []).kOf []).asks1,p)∧∀ (x:Nat) (n:List Nat),(((tOf).kOf []).kOf []).kOf (x :: n)=(((tOf).kOf []).kOf []).kOf [0]:=⟨by kernel_rfl,(by rw[show (((tOf).kOf []).kOf []).asks1=[] by kernel_rfl];exact al_nil),fun x n=>by kernel_rfl⟩
theorem ndf:(tOf).isAll=true∧(∀ p∈(tOf).asks1,p)∧∀ (x:Nat) (n:List Nat),(tOf).kOf (x :: n)=(tOf).kOf [0]:=⟨by kernel_rfl,(by rw[show (tOf).asks1=[as6,as5] by kernel_rfl];exact al_cons as6_ok <| al_cons as5_ok <| al_nil),fun x n=>by kernel_rfl⟩
end Go.Proofs.YthnojkbkojpadaaGreat

namespace Go.Proofs.YthnojkbkojpadaaGreat
open Go.RowKit Go.Sx Go.Lp
set_option maxRecDepth 100000
theorem nd100111f:(((((((tOf).kOf [0]).kOf []).kOf []).kOf [0]).kOf [0]).kOf [0]).isAll=true∧(∀ p∈(((((((tOf).kOf [0]).kOf []).kOf []).kOf [0]).kOf [0]).kOf [0]).asks1,p)∧∀ (x:Nat) (n:List Nat),(((((((tOf).kOf [0]).kOf []).kOf []).kOf [0]).kOf [0]).kOf [0]).kOf (x :: n)=(((((((tOf).kOf [0]).kOf []).kOf []).kOf [0]).kOf [0]).kOf [0]).kOf [0]:=⟨by kernel_rfl,(by rw[show (((((((tOf).kOf [0]).kOf []).kOf []).kOf [0]).kOf [0]).kOf [0]).asks1=[] by kernel_rfl];exact al_nil),fun x n=>by kernel_rfl⟩
theorem nd110011f:(((((((tOf).kOf [0]).kOf [0]).kOf []).kOf []).kOf [0]).kOf [0]).isAll=true∧(∀ p∈(((((((tOf).kOf [0]).kOf [0]).kOf []).kOf []).kOf [0]).kOf [0]).asks1,p)∧∀ (x:Nat) (n:List Nat),(((((((tOf).kOf [0]).kOf [0]).kOf []).kOf []).kOf [0]).kOf [0]).kOf (x :: n)=(((((((tOf).kOf [0]).kOf [0]).kOf []).kOf []).kOf [0]).kOf [0]).kOf [0]:=⟨by kernel_rfl,(by rw[show (((((((tOf).kOf [0]).kOf [0]).kOf []).kOf []).kOf [0]).kOf [0]).asks1=[] by kernel_rfl];exact al_nil),fun x n=>by kernel_rfl⟩
theorem nd10111f:((((((tOf).kOf [0]).kOf []).kOf [0]).kOf [0]).kOf [0]).isAll=true∧(∀ p∈((((((tOf).kOf [0]).kOf []).kOf [0]).kOf [0]).kOf [0]).asks1,p)∧∀ (x:Nat) (n:List Nat),((((((tOf).kOf [0]).kOf []).kOf [0]).kOf [0]).kOf [0]).kOf (x :: n)=((((((tOf).kOf [0]).kOf []).kOf [0]).kOf [0]).kOf [0]).kOf [0]:=⟨by kernel_rfl,(by rw[show ((((((tOf).kOf [0]).kOf []).kOf [0]).kOf [0]).kOf [0]).asks1=[] by kernel_rfl];exact al_nil),fun x n=>by kernel_rfl⟩
theorem nd11111f:((((((tOf).kOf [0]).kOf [0]).kOf [0]).kOf [0]).kOf [0]).isAll=true∧(∀ p∈((((((tOf).kOf [0]).kOf [0]).kOf [0]).kOf [0]).kOf [0]).asks1,p)∧∀ (x:Nat) (n:List Nat),((((((tOf).kOf [0]).kOf [0]).kOf [0]).kOf [0]).kOf [0]).kOf (x :: n)=((((((tOf).kOf [0]).kOf [0]).kOf [0]).kOf [0]).kOf [0]).kOf [0]:=⟨by kernel_rfl,(by rw[show ((((((tOf).kOf [0]).kOf [0]).kOf [0]).kOf [0]).kOf [0]).asks1=[] by kernel_rfl];exact al_nil),fun x n=>by kernel_rfl⟩
theorem nd0111f:(((((tOf).kOf []).kOf [0]).kOf [0]).kOf [0]).isAll=true∧(∀ p∈(((((tOf).kOf []).kOf [0]).kOf [0]).kOf [0]).asks1,p)∧∀ (x:Nat) (n:List Nat),(((((tOf).kOf []).kOf [0]).kOf [0]).kOf [0]).kOf (x :: n)=(((((tOf).kOf []).kOf [0]).kOf [0]).kOf [0]).kOf [0]:=⟨by kernel_rfl,(by rw[show (((((tOf).kOf []).kOf [0]).kOf [0]).kOf [0]).asks1=[] by kernel_rfl];exact al_nil),fun x n=>by kernel_rfl⟩
theorem nd1101f:(((((tOf).kOf [0]).kOf [0]).kOf []).kOf [0]).isAll=true∧(∀ p∈(((((tOf).kOf [0]).kOf [0]).kOf []).kOf [0]).asks1,p)∧∀ (x:Nat) (n:List Nat),(((((tOf).kOf [0]).kOf [0]).kOf []).kOf [0]).kOf (x :: n)=(((((tOf).kOf [0]).kOf [0]).kOf []).kOf [0]).kOf [0]:=⟨by kernel_rfl,(by rw[show (((((tOf).kOf [0]).kOf [0]).kOf []).kOf [0]).asks1=[] by kernel_rfl];exact al_nil),fun x n=>by kernel_rfl⟩
theorem nd011f:((((tOf).kOf []).kOf [0]).kOf [0]).isAll=true∧(∀ p∈((((tOf).kOf []).kOf [0]).kOf [0]).asks1,p)∧∀ (x:Nat) (n:List Nat),((((tOf).kOf []).kOf [0]).kOf [0]).kOf (x :: n)=((((tOf).kOf []).kOf [0]).kOf [0]).kOf [0]:=⟨by kernel_rfl,(by rw[show ((((tOf).kOf []).kOf [0]).kOf [0]).asks1=[] by kernel_rfl];exact al_nil),fun x n=>by kernel_rfl⟩
theorem nd01f:(((tOf).kOf []).kOf [0]).isAll=true∧(∀ p∈(((tOf).kOf []).kOf [0]).asks1,p)∧∀ (x:Nat) (n:List Nat),(((tOf).kOf []).kOf [0]).kOf (x :: n)=(((tOf).kOf []).kOf [0]).kOf [0]:=⟨by kernel_rfl,(by rw[show (((tOf).kOf []).kOf [0]).asks1=[] by kernel_rfl];exact al_nil),fun x n=>by kernel_rfl⟩
end Go.Proofs.YthnojkbkojpadaaGreat

namespace Go.Proofs.YthnojkbkojpadaaGreat
open Go.RowKit Go.Sx Go.Lp
set_option maxRecDepth 100000
theorem nd1000000:((((((((tOf).kOf [0]).kOf []).kOf []).kOf []).kOf []).kOf []).kOf []).Holds (·=([pa0],0)):=Tr.fork_holds nd1000000f.1 nd1000000f.2.1 nd1000000f.2.2 nd10000000 nd10000001
theorem nd1000111:((((((((tOf).kOf [0]).kOf []).kOf []).kOf []).kOf [0]).kOf [0]).kOf [0]).Holds (·=([pa0],0)):=Tr.fork_holds nd1000111f.1 nd1000111f.2.1 nd1000111f.2.2 nd10001110 nd10001111
theorem nd1100000:((((((((tOf).kOf [0]).kOf [0]).kOf []).kOf []).kOf []).kOf []).kOf []).Holds (·=([pa0],0)):=Tr.fork_holds nd1100000f.1 nd1100000f.2.1 nd1100000f.2.2 nd11000000 nd11000001
theorem nd1100111:((((((((tOf).kOf [0]).kOf [0]).kOf []).kOf []).kOf [0]).kOf [0]).kOf [0]).Holds (·=([pa0],0)):=Tr.fork_holds nd1100111f.1 nd1100111f.2.1 nd1100111f.2.2 nd11001110 nd11001111
theorem nd000000:(((((((tOf).kOf []).kOf []).kOf []).kOf []).kOf []).kOf []).Holds (·=([pa0],0)):=Tr.fork_holds nd000000f.1 nd000000f.2.1 nd000000f.2.2 nd0000000 nd0000001
theorem nd000111:(((((((tOf).kOf []).kOf []).kOf []).kOf [0]).kOf [0]).kOf [0]).Holds (·=([pa0],0)):=Tr.fork_holds nd000111f.1 nd000111f.2.1 nd000111f.2.2 nd0001110 nd0001111
theorem nd100000:(((((((tOf).kOf [0]).kOf []).kOf []).kOf []).kOf []).kOf []).Holds (·=([pa0],0)):=Tr.fork_holds nd100000f.1 nd100000f.2.1 nd100000f.2.2 nd1000000 nd1000001
theorem nd100011:(((((((tOf).kOf [0]).kOf []).kOf []).kOf []).kOf [0]).kOf [0]).Holds (·=([pa0],0)):=Tr.fork_holds nd100011f.1 nd100011f.2.1 nd100011f.2.2 nd1000110 nd1000111
theorem nd100111:(((((((tOf).kOf [0]).kOf []).kOf []).kOf [0]).kOf [0]).kOf [0]).Holds (·=([pa0],0)):=Tr.fork_holds nd100111f.1 nd100111f.2.1 nd100111f.2.2 nd1001110 nd1001111
theorem nd110000:(((((((tOf).kOf [0]).kOf [0]).kOf []).kOf []).kOf []).kOf []).Holds (·=([pa0],0)):=Tr.fork_holds nd110000f.1 nd110000f.2.1 nd110000f.2.2 nd1100000 nd1100001
theorem nd110011:(((((((tOf).kOf [0]).kOf [0]).kOf []).kOf []).kOf [0]).kOf [0]).Holds (·=([pa0],0)):=Tr.fork_holds nd110011f.1 nd110011f.2.1 nd110011f.2.2 nd1100110 nd1100111
theorem nd110111:(((((((tOf).kOf [0]).kOf [0]).kOf []).kOf [0]).kOf [0]).kOf [0]).Holds (·=([pa0],0)):=Tr.fork_holds nd110111f.1 nd110111f.2.1 nd110111f.2.2 nd1101110 nd1101111
theorem nd00000:((((((tOf).kOf []).kOf []).kOf []).kOf []).kOf []).Holds (·=([pa0],0)):=Tr.fork_holds nd00000f.1 nd00000f.2.1 nd00000f.2.2 nd000000 nd000001
theorem nd00011:((((((tOf).kOf []).kOf []).kOf []).kOf [0]).kOf [0]).Holds (·=([pa0],0)):=Tr.fork_holds nd00011f.1 nd00011f.2.1 nd00011f.2.2 nd000110 nd000111
theorem nd00111:((((((tOf).kOf []).kOf []).kOf [0]).kOf [0]).kOf [0]).Holds (·=([pa0],0)):=Tr.fork_holds nd00111f.1 nd00111f.2.1 nd00111f.2.2 nd001110 nd001111
theorem nd10000:((((((tOf).kOf [0]).kOf []).kOf []).kOf []).kOf []).Holds (·=([pa0],0)):=Tr.fork_holds nd10000f.1 nd10000f.2.1 nd10000f.2.2 nd100000 nd100001
theorem nd10001:((((((tOf).kOf [0]).kOf []).kOf []).kOf []).kOf [0]).Holds (·=([pa0],0)):=Tr.fork_holds nd10001f.1 nd10001f.2.1 nd10001f.2.2 nd100010 nd100011
theorem nd10011:((((((tOf).kOf [0]).kOf []).kOf []).kOf [0]).kOf [0]).Holds (·=([pa0],0)):=Tr.fork_holds nd10011f.1 nd10011f.2.1 nd10011f.2.2 nd100110 nd100111
theorem nd10111:((((((tOf).kOf [0]).kOf []).kOf [0]).kOf [0]).kOf [0]).Holds (·=([pa0],0)):=Tr.fork_holds nd10111f.1 nd10111f.2.1 nd10111f.2.2 nd101110 nd101111
theorem nd11000:((((((tOf).kOf [0]).kOf [0]).kOf []).kOf []).kOf []).Holds (·=([pa0],0)):=Tr.fork_holds nd11000f.1 nd11000f.2.1 nd11000f.2.2 nd110000 nd110001
theorem nd11001:((((((tOf).kOf [0]).kOf [0]).kOf []).kOf []).kOf [0]).Holds (·=([pa0],0)):=Tr.fork_holds nd11001f.1 nd11001f.2.1 nd11001f.2.2 nd110010 nd110011
theorem nd11011:((((((tOf).kOf [0]).kOf [0]).kOf []).kOf [0]).kOf [0]).Holds (·=([pa0],0)):=Tr.fork_holds nd11011f.1 nd11011f.2.1 nd11011f.2.2 nd110110 nd110111
theorem nd11111:((((((tOf).kOf [0]).kOf [0]).kOf [0]).kOf [0]).kOf [0]).Holds (·=([pa0],0)):=Tr.fork_holds nd11111f.1 nd11111f.2.1 nd11111f.2.2 nd111110 nd111111
theorem nd0000:(((((tOf).kOf []).kOf []).kOf []).kOf []).Holds (·=([pa0],0)):=Tr.fork_holds nd0000f.1 nd0000f.2.1 nd0000f.2.2 nd00000 nd00001
theorem nd0001:(((((tOf).kOf []).kOf []).kOf []).kOf [0]).Holds (·=([pa0],0)):=Tr.fork_holds nd0001f.1 nd0001f.2.1 nd0001f.2.2 nd00010 nd00011
theorem nd0011:(((((tOf).kOf []).kOf []).kOf [0]).kOf [0]).Holds (·=([pa0],0)):=Tr.fork_holds nd0011f.1 nd0011f.2.1 nd0011f.2.2 nd00110 nd00111
theorem nd0111:(((((tOf).kOf []).kOf [0]).kOf [0]).kOf [0]).Holds (·=([pa0],0)):=Tr.fork_holds nd0111f.1 nd0111f.2.1 nd0111f.2.2 nd01110 nd01111
theorem nd1000:(((((tOf).kOf [0]).kOf []).kOf []).kOf []).Holds (·=([pa0],0)):=Tr.fork_holds nd1000f.1 nd1000f.2.1 nd1000f.2.2 nd10000 nd10001
theorem nd1001:(((((tOf).kOf [0]).kOf []).kOf []).kOf [0]).Holds (·=([pa0],0)):=Tr.fork_holds nd1001f.1 nd1001f.2.1 nd1001f.2.2 nd10010 nd10011
theorem nd1011:(((((tOf).kOf [0]).kOf []).kOf [0]).kOf [0]).Holds (·=([pa0],0)):=Tr.fork_holds nd1011f.1 nd1011f.2.1 nd1011f.2.2 nd10110 nd10111
theorem nd1100:(((((tOf).kOf [0]).kOf [0]).kOf []).kOf []).Holds (·=([pa0],0)):=Tr.fork_holds nd1100f.1 nd1100f.2.1 nd1100f.2.2 nd11000 nd11001
theorem nd1101:(((((tOf).kOf [0]).kOf [0]).kOf []).kOf [0]).Holds (·=([pa0],0)):=Tr.fork_holds nd1101f.1 nd1101f.2.1 nd1101f.2.2 nd11010 nd11011
theorem nd1111:(((((tOf).kOf [0]).kOf [0]).kOf [0]).kOf [0]).Holds (·=([pa0],0)):=Tr.fork_holds nd1111f.1 nd1111f.2.1 nd1111f.2.2 nd11110 nd11111
theorem nd000:((((tOf).kOf []).kOf []).kOf []).Holds (·=([pa0],0)):=Tr.fork_holds nd000f.1 nd000f.2.1 nd000f.2.2 nd0000 nd0001
theorem nd001:((((tOf).kOf []).kOf []).kOf [0]).Holds (·=([pa0],0)):=Tr.fork_holds nd001f.1 nd001f.2.1 nd001f.2.2 nd0010 nd0011
theorem nd011:((((tOf).kOf []).kOf [0]).kOf [0]).Holds (·=([pa0],0)):=Tr.fork_holds nd011f.1 nd011f.2.1 nd011f.2.2 nd0110 nd0111
theorem nd100:((((tOf).kOf [0]).kOf []).kOf []).Holds (·=([pa0],0)):=Tr.fork_holds nd100f.1 nd100f.2.1 nd100f.2.2 nd1000 nd1001
theorem nd101:((((tOf).kOf [0]).kOf []).kOf [0]).Holds (·=([pa0],0)):=Tr.fork_holds nd101f.1 nd101f.2.1 nd101f.2.2 nd1010 nd1011
theorem nd110:((((tOf).kOf [0]).kOf [0]).kOf []).Holds (·=([pa0],0)):=Tr.fork_holds nd110f.1 nd110f.2.1 nd110f.2.2 nd1100 nd1101
theorem nd111:((((tOf).kOf [0]).kOf [0]).kOf [0]).Holds (·=([pa0],0)):=Tr.fork_holds nd111f.1 nd111f.2.1 nd111f.2.2 nd1110 nd1111
theorem nd00:(((tOf).kOf []).kOf []).Holds (·=([pa0],0)):=Tr.fork_holds nd00f.1 nd00f.2.1 nd00f.2.2 nd000 nd001
theorem nd01:(((tOf).kOf []).kOf [0]).Holds (·=([pa0],0)):=Tr.fork_holds nd01f.1 nd01f.2.1 nd01f.2.2 nd010 nd011
theorem nd10:(((tOf).kOf [0]).kOf []).Holds (·=([pa0],0)):=Tr.fork_holds nd10f.1 nd10f.2.1 nd10f.2.2 nd100 nd101
theorem nd11:(((tOf).kOf [0]).kOf [0]).Holds (·=([pa0],0)):=Tr.fork_holds nd11f.1 nd11f.2.1 nd11f.2.2 nd110 nd111
theorem nd0:((tOf).kOf []).Holds (·=([pa0],0)):=Tr.fork_holds nd0f.1 nd0f.2.1 nd0f.2.2 nd00 nd01
theorem nd1:((tOf).kOf [0]).Holds (·=([pa0],0)):=Tr.fork_holds nd1f.1 nd1f.2.1 nd1f.2.2 nd10 nd11
theorem nd:(tOf).Holds (·=([pa0],0)):=Tr.fork_holds ndf.1 ndf.2.1 ndf.2.2 nd0 nd1
end Go.Proofs.YthnojkbkojpadaaGreat

namespace Go.Proofs.YthnojkbkojpadaaGreat
open Go.RowKit Go.Sx Go.Lp
set_option maxRecDepth 100000
abbrev aSEB:DA (List Spot×List Edge):=.cons (.listB eSp) (.one (.list eE))
theorem rof1_ok:FnPure Tryz.prog 69 aSEB dLPE (fun _=>([pa0],0)) (fun g=>[g=([⟨p0,0⟩],[])]):=pure_of_tree (MTab.okz tabV10 [(4000000,0)] usW) noΛ_ok 100 fun g _ hp=>by
 obtain rfl:g=([⟨p0,0⟩],[]):=hp _ (List.mem_cons_self ..)
 have h:tOf.Holds (·=([pa0],0)):=nd
 exact h
theorem nw1_c:FnT Tryz.prog 34 TA.nil aLPoC trN0 (fun _ _=>((),(some lk0,0))) (fun _ l=>[l=[pa0]]):=T_of_tree (MTab.okz tabV27 [(4000000,0)] []) noΛ_ok 100 fun u g _ hp=>by
 have e:g=[pa0]:=hp _ (List.mem_cons_self ..)
 subst e
 have h:tNw2.Holds (·=((),(some lk0,0))):=nw2h
 exact h
noncomputable def tk1_f (k:LdK) (_:List Change):LdK×Int:=(bif k.2.2.1.isEmpty then lk1 else lk2,0)
abbrev tk1_P (k:LdK) (c:List Change):Prop:=(k,c)=(lk0,[ch0])∨(k,c)=(lk1,[ch1])
theorem two4 (κ γ δ:Type) (X:κ→γ→Tr δ) (bd:γ→Prop) (fn:κ→γ→δ) (k0 k1:κ) (c0 c1:γ) (h1:(X k0 c0).Holds (·=fn k0 c0)) (h2:(X k1 c1).Holds (·=fn k1 c1)) :
  ∀ (k:κ) (c:γ),bd c→(∀ p∈[(k,c)=(k0,c0)∨(k,c)=(k1,c1)],p)→(X k c).Holds (·=fn k c):=by
 intro k c _ hp
 rcases hp _ (List.mem_cons_self ..) with e | e
 ·obtain ⟨e1,e2⟩:=Prod.mk.inj e
  subst e1;subst e2
  exact h1
 ·obtain ⟨e1,e2⟩:=Prod.mk.inj e
  subst e1;subst e2
  exact h2
theorem tk1_e1:((fun k c=>tTree Tryz.prog (MTab.gamz tabV27n [(4000000,0)] []) noΛ 100 35 taL1 (TR.pure dI) k (aLC1.enc c)) lk0 [ch0]).Holds (·=tk1_f lk0 [ch0]):=by
 rw[show tk1_f lk0 [ch0]=(lk1,0) from rfl]
 exact tk1h
theorem tk1_e2:((fun k c=>tTree Tryz.prog (MTab.gamz tabV27n [(4000000,0)] []) noΛ 100 35 taL1 (TR.pure dI) k (aLC1.enc c)) lk1 [ch1]).Holds (·=tk1_f lk1 [ch1]):=by
 rw[show tk1_f lk1 [ch1]=(lk2,0) from rfl]
 exact tk2h
theorem tk1_T:∀ (k:LdK) (c:List Change),aLC1.bd c→(∀ p∈[tk1_P k c],p)→((fun k c=>tTree Tryz.prog (MTab.gamz tabV27n [(4000000,0)] []) noΛ 100 35 taL1 (TR.pure dI) k (aLC1.enc c)) k c).Holds (·=tk1_f k c):=@two4 LdK (List Change) (LdK×Int) (fun k c=>tTree Tryz.prog (MTab.gamz tabV27n [(4000000,0)] []) noΛ 100 35 taL1 (TR.pure dI) k (aLC1.enc c)) aLC1.bd tk1_f lk0 lk1 [ch0] [ch1] tk1_e1 tk1_e2
theorem tk1_c:FnT Tryz.prog 35 taL1 aLC1 (TR.pure dI) tk1_f (fun k c=>[tk1_P k c]):=@T_of_tree _ _ (MTab.gamz tabV27n [(4000000,0)] []) noΛ _ _ _ _ _ _ _ _ _ (MTab.okz tabV27n [(4000000,0)] []) noΛ_ok 100 (@tk1_T)
noncomputable def fm1_f (k:LdK) (_:Place):LdK×(List T×Int):=(k,(bif k.2.2.1.isEmpty then [] else [t3],0))
abbrev fm1_P (k:LdK) (p:Place):Prop:=(k,p)=(lk1,p0)∨(k,p)=(lk2,p0)
theorem fm1_e1:((fun k c=>tTree Tryz.prog (MTab.gamz tabV27f [(4000000,0)] []) noΛ 100 36 taL1 (TR.pure dLTE) k (aP1.enc c)) lk1 p0).Holds (·=fm1_f lk1 p0):=by
 rw[show fm1_f lk1 p0=(lk1,([t3],0)) from rfl]
 exact fm1h
theorem fm1_e2:((fun k c=>tTree Tryz.prog (MTab.gamz tabV27f [(4000000,0)] []) noΛ 100 36 taL1 (TR.pure dLTE) k (aP1.enc c)) lk2 p0).Holds (·=fm1_f lk2 p0):=by
 rw[show fm1_f lk2 p0=(lk2,([],0)) from rfl]
 exact fm2h
theorem fm1_T:∀ (k:LdK) (c:Place),aP1.bd c→(∀ p∈[fm1_P k c],p)→((fun k c=>tTree Tryz.prog (MTab.gamz tabV27f [(4000000,0)] []) noΛ 100 36 taL1 (TR.pure dLTE) k (aP1.enc c)) k c).Holds (·=fm1_f k c):=@two4 LdK (Place) (LdK×(List T×Int)) (fun k c=>tTree Tryz.prog (MTab.gamz tabV27f [(4000000,0)] []) noΛ 100 36 taL1 (TR.pure dLTE) k (aP1.enc c)) aP1.bd fm1_f lk1 lk2 p0 p0 fm1_e1 fm1_e2
theorem fm1_c:FnT Tryz.prog 36 taL1 aP1 (TR.pure dLTE) fm1_f (fun k c=>[fm1_P k c]):=@T_of_tree _ _ (MTab.gamz tabV27f [(4000000,0)] []) noΛ _ _ _ _ _ _ _ _ _ (MTab.okz tabV27f [(4000000,0)] []) noΛ_ok 100 (@fm1_T)
noncomputable def tabV29:MTab Tryz.prog:=((((MTab.of PTab.nil).consM 69 (fconR aSEB dLPE (fun _=>([pa0],0)) (fun g=>[g=([⟨p0,0⟩],[])])) (fconR_ok rof1_ok)).consM 34 (fconT TA.nil aLPoC trN0 (fun _ _=>((),(some lk0,0))) (fun _ l=>[l=[pa0]])) (fconT_ok nw1_c)).consM 35 (fconT taL1 aLC1 (TR.pure dI) tk1_f (fun k c=>[tk1_P k c])) (fconT_ok tk1_c)).consM 36 (bconT taL1 aP1 (TR.pure dLTE) fm1_f (fun k p=>[fm1_P k p])) (bconT_ok fm1_c)
noncomputable abbrev lvT2:Tr Bool:=dTree Tryz.prog (MTab.gamz tabV29 [(4000000,0)] []) noΛ 100 28 (DA.enc .none ()) dBool
end Go.Proofs.YthnojkbkojpadaaGreat

namespace Go.Proofs.YthnojkbkojpadaaGreat
open Go.RowKit Go.Sx Go.Lp
set_option maxRecDepth 100000
abbrev lv0:Prop:=(([Spot.mk (Place.mk (1:Int) (2:Int)) (0:Int)],[]):List Spot×List Edge)=([Spot.mk (Place.mk (1:Int) (2:Int)) (0:Int)],[])
theorem lv0p:lv0:=rfl
abbrev lv1:Prop:=[Path.mk (Place.mk (1:Int) (2:Int)) (Place.mk (1:Int) (2:Int)) [S.mk (0:Int) (0:Int) (0:Int) (0:Int) (0:Int) (0:Int) (0:Int) (0:Int)]]=[Path.mk (Place.mk (1:Int) (2:Int)) (Place.mk (1:Int) (2:Int)) [S.mk (0:Int) (0:Int) (0:Int) (0:Int) (0:Int) (0:Int) (0:Int) (0:Int)]]
theorem lv1p:lv1:=rfl
abbrev lv2:Prop:=∀ (e:Nat),e<(1:Nat)→ePa.Ok (ePa.els [Path.mk (Place.mk (1:Int) (2:Int)) (Place.mk (1:Int) (2:Int)) [S.mk (0:Int) (0:Int) (0:Int) (0:Int) (0:Int) (0:Int) (0:Int) (0:Int)]] e)
theorem lv2p:lv2:=fun _ _=>El.ok_els _ _ _
abbrev lv3:Prop:=∀ (e:Nat),e<(1:Nat)→(eP.pair eI).Ok ((eP.pair eI).els [(Place.mk (1:Int) (2:Int),(0:Int))] e)
theorem lv3p:lv3:=fun _ _=>El.ok_els _ _ _
abbrev lv4:Prop:=∀ (e:Nat),e<(0:Nat)→True
theorem lv4p:lv4:=fun _ _=>trivial
abbrev lv5:Prop:=tk1_P ([Path.mk (Place.mk (1:Int) (2:Int)) (Place.mk (1:Int) (2:Int)) [S.mk (0:Int) (0:Int) (0:Int) (0:Int) (0:Int) (0:Int) (0:Int) (0:Int)]],[(Place.mk (1:Int) (2:Int),(0:Int))],[],(0:Nat)) [Change.mk (Place.mk (1:Int) (2:Int)) (T.mk (3:Int) (0:Int) (0:Int) (0:Int) (0:Int) (0:Int)) (1:Int)]
theorem lv5p:lv5:=by first | exact .inl rfl | exact .inr rfl
abbrev lv6:Prop:=∀ (e:Nat),e<(1:Nat)→True
theorem lv6p:lv6:=fun _ _=>trivial
abbrev lv7:Prop:=fm1_P ([Path.mk (Place.mk (1:Int) (2:Int)) (Place.mk (1:Int) (2:Int)) [S.mk (0:Int) (0:Int) (0:Int) (0:Int) (0:Int) (0:Int) (0:Int) (0:Int)]],[(Place.mk (1:Int) (2:Int),(0:Int))],[((Place.mk (1:Int) (2:Int),T.mk (3:Int) (0:Int) (0:Int) (0:Int) (0:Int) (0:Int)),(1:Int),(0:Int))],(1:Nat)) (Place.mk (1:Int) (2:Int))
theorem lv7p:lv7:=by first | exact .inl rfl | exact .inr rfl
abbrev lv8:Prop:=tk1_P ([Path.mk (Place.mk (1:Int) (2:Int)) (Place.mk (1:Int) (2:Int)) [S.mk (0:Int) (0:Int) (0:Int) (0:Int) (0:Int) (0:Int) (0:Int) (0:Int)]],[(Place.mk (1:Int) (2:Int),(0:Int))],[((Place.mk (1:Int) (2:Int),T.mk (3:Int) (0:Int) (0:Int) (0:Int) (0:Int) (0:Int)),(1:Int),(0:Int))],(1:Nat)) [Change.mk (Place.mk (1:Int) (2:Int)) (T.mk (3:Int) (0:Int) (0:Int) (0:Int) (0:Int) (0:Int)) (-1:Int)]
theorem lv8p:lv8:=by first | exact .inl rfl | exact .inr rfl
abbrev lv9:Prop:=fm1_P ([Path.mk (Place.mk (1:Int) (2:Int)) (Place.mk (1:Int) (2:Int)) [S.mk (0:Int) (0:Int) (0:Int) (0:Int) (0:Int) (0:Int) (0:Int) (0:Int)]],[(Place.mk (1:Int) (2:Int),(0:Int))],[],(1:Nat)) (Place.mk (1:Int) (2:Int))
theorem lv9p:lv9:=by first | exact .inl rfl | exact .inr rfl
abbrev lv10:Prop:=(0:Int)≤(0:Int)∧(0:Int)<(1:Int)
theorem lv10p:lv10:=by decide
theorem lvh:(lvT2).Holds (·=true):=Tr.hn_holds (by rw[show (lvT2).hn true=(lv0∧lv1∧lv2∧lv3∧lv4∧lv5∧lv2∧lv3∧lv6∧lv7∧lv2∧lv3∧lv6∧lv8∧lv2∧lv3∧lv4∧lv9∧lv10∧true=true) by kernel_rfl];exact ⟨lv0p,lv1p,lv2p,lv3p,lv4p,lv5p,lv2p,lv3p,lv6p,lv7p,lv2p,lv3p,lv6p,lv8p,lv2p,lv3p,lv4p,lv9p,lv10p,rfl⟩)
theorem lw2_ok:FnPure Tryz.prog 28 .none dBool (fun _=>true) (fun _=>[]):=pure_of_tree (MTab.okz tabV29 [(4000000,0)] []) noΛ_ok 100 fun g _ _=>by
 have h:lvT2.Holds (·=true):=lvh
 exact h
end Go.Proofs.YthnojkbkojpadaaGreat

namespace Go.Proofs.YthnojkbkojpadaaGreat
open Go.RowKit Go.Sx
set_option maxRecDepth 100000
set_option linter.unusedVariables false
abbrev few5_G:Type:=List Path×Int×Int×Int
noncomputable def few5_LP:LP 0 few5_G:=.pair (.slot 0 9 dLP) (.pair (.slot 0 10 dI) (.pair (.slot 0 11 dI) (.slot 0 3 dI)))
noncomputable def few5_R (xs:List Path) (n:Int) (i:Int) (k:Int):Ex×few5_G:=
 bif decide (i<n) then (Ex.normal,ePa.ag xs,n,IntKind.i64.wrap (i+(1:Int)),IntKind.i64.wrap (k+List.foldl (fun a x=>bif false then if x.snd.snd > a then x.snd.snd else a else if x.snd.snd<a then x.snd.snd else a) (↑(xs.getD i.toNat ePa.dflt).ss.length:Int) [(true,IntKind.i64,(1000:Int))]))
 else (Ex.exit (0:Nat),ePa.ag xs,n,i,k)
def few5_side (xs:List Path) (n:Int) (i:Int) (k:Int):Prop:=
 (decide (i<n)=true→((0:Int)≤i∧i<(↑xs.length:Int))∧ePa.okL xs)∧(decide (i<n)=false→ePa.okL xs)
theorem few5_one:((loopsOf Tryz.prog 32).filter fun c=>Nat.beq (lkey c) 5).length=1:=by kernel_rfl
abbrev few5_GC:Type:=List Path×Int
abbrev few5_GB:Type:=Int
def few5_f (g:few5_G):Int×few5_GC×few5_GB:=(g.2.2.1,(g.1,g.2.1),g.2.2.2)
def few5_g (d:Int×few5_GC×few5_GB):few5_G:=(d.2.1.1,d.2.1.2,d.1,d.2.2)
theorem few5_es (g:few5_G):(few5_R g.1 g.2.1 g.2.2.1 g.2.2.2).1=.normal∨(few5_R g.1 g.2.1 g.2.2.1 g.2.2.2).1∈([.exit 0]:List Ex):=by
 unfold few5_R
 repeat' (first | (left;rfl) | (right;simp only[cond_true,cond_false];simp;done) | (rw[Bool.cond_eq_ite];split))
noncomputable abbrev few5_C (Inv:few5_G→List Prop) (m:few5_G→Nat):LCon:=loopR [.exit 0] (loopBody Tryz.prog 32 5) few5_LP [] 24 Inv (fun g=>few5_R g.1 g.2.1 g.2.2.1 g.2.2.2) m
theorem few5_loop (Inv:few5_G→List Prop) (m:few5_G→Nat) (hs:∀ g,allP (Inv g)→few5_side g.1 g.2.1 g.2.2.1 g.2.2.2) (hg:Goes (fun g:few5_G=>few5_R g.1 g.2.1 g.2.2.1 g.2.2.2) m fun g=>allP (Inv g)):∀ b∈loopsOf Tryz.prog 32,lkey b=5→LoopOk Tryz.prog b (few5_C Inv m).g:=loop_run (Γ:=(MTab.gamz tabE0 [] [])) (Λ:=noΛ) (MTab.okz tabE0 [] []) noΛ_ok 100 32 5 24 few5_LP [] Inv (fun g=>few5_R g.1 g.2.1 g.2.2.1 g.2.2.2) (fun g=>few5_side g.1 g.2.1 g.2.2.1 g.2.2.2) m default [.exit 0] few5_one (fun rd T B HL HB ds g=>by kernel_rfl) (fun rd T B HL HB ds g=>by kernel_rfl) hs hg few5_es
end Go.Proofs.YthnojkbkojpadaaGreat

namespace Go.Proofs.YthnojkbkojpadaaGreat
open Go.RowKit Go.Sx Go.Lp
set_option maxRecDepth 100000
noncomputable def few5K (k:Int) (v:Path):Int:=IntKind.i64.wrap (k+List.foldl (fun a (x:Bool×IntKind×Int)=>bif false then if x.2.2 > a then x.2.2 else a else if x.2.2<a then x.2.2 else a) (v.ss.length:Int) [(true,IntKind.i64,(1000:Int))])
noncomputable def few5_S (_:few5_GC) (b:few5_GB) (_:Int) (v:Path):Ex×few5_GB:=(.normal,few5K b v)
def few5_K (_:few5_GC) (_:few5_GB) (_:Int):Prop:=True
abbrev few5_I (g:few5_G):List Prop:=ixI (fun c:few5_GC=>c.2) (fun c=>c.1) few5_K (few5_f g)
abbrev few5_M (g:few5_G):Nat:=ixM (fun c:few5_GC=>c.2) (few5_f g)
theorem few5_P:ixP few5_S (fun c:few5_GC=>c.1) few5_K:=fun _ _ _ _ h _ _=>h
noncomputable abbrev few5_RR (g:few5_G):Ex×few5_G:=few5_R g.1 g.2.1 g.2.2.1 g.2.2.2
theorem few5_RF (d:Int×few5_GC×few5_GB) (_:allP (ixI (fun c:few5_GC=>c.2) (fun c=>c.1) few5_K d)):few5_RR (few5_g d)=((ixF 0 (fun c:few5_GC=>c.2) (fun c=>c.1) ePa.dflt few5_S d).1,few5_g (ixF 0 (fun c:few5_GC=>c.2) (fun c=>c.1) ePa.dflt few5_S d).2):=by
 obtain ⟨i,⟨xs,n⟩,k⟩:=d
 show few5_R xs n i k=_
 unfold few5_R ixF few5_S few5K
 simp only[El.ag_eq]
 cases decide (i<n) <;> rfl
theorem few5_ok:∀ b∈loopsOf Tryz.prog 32,lkey b=5→LoopOk Tryz.prog b (few5_C few5_I few5_M).g:=by
 refine few5_loop few5_I few5_M (fun g hi=>?_) (ix_conj_goes (fun _=>rfl) (fun _=>rfl) few5_RF few5_P)
 obtain ⟨xs,n,i,k⟩:=g
 obtain ⟨h1,h2,h3,h4,h5⟩:=hi _ (List.mem_cons_self ..)
 have h1:n=(xs.length:Int):=h1
 have h3:0≤i:=h3
 show few5_side xs n i k
 unfold few5_side
 simp only[El.okL_eq]
 exact ⟨fun hlt=>⟨rngP i n _ h1 h3 hlt,trivial⟩,fun _=>trivial⟩
noncomputable def ltW4:LTab Tryz.prog:=LTab.nil.cons 32 5 (few5_C few5_I few5_M) few5_ok
noncomputable abbrev lamW4:Lam:=ltW4.lam
theorem lamW4_ok:∀ f k L,lamW4 f k=some L→∀ b∈loopsOf Tryz.prog f,lkey b=k→LoopOk Tryz.prog b L.g:=ltW4.ok
noncomputable def tabW4:MTab Tryz.prog:=tabE0.cons 28 (pconP .none dBool (fun _=>true) (fun _=>[])) (conP_ok lw2_ok puB)
end Go.Proofs.YthnojkbkojpadaaGreat

namespace Go.Proofs.YthnojkbkojpadaaGreat
open Go.RowKit Go.Sx
set_option maxRecDepth 100000
set_option linter.unusedVariables false
noncomputable def fw5_q1 (l:List Path):Ex ×
 few5_G:=
 loopF (fun g=>few5_R g.fst g.snd.fst g.snd.snd.fst g.snd.snd.snd) few5_M (ePa.ag l,(↑l.length:Int),(0:Int),(0:Int))
noncomputable def fw5_F (l:List Path):Dv.T dBool:=
 bif decide ((↑l.length:Int) > (40:Int)) then false else decide ((fw5_q1 l).snd.snd.snd.snd≤(200:Int))
def fw5_side (l:List Path):Prop:=
 decide ((↑l.length:Int) > (40:Int))=false→ePa.okL l∧Lp.ixJ (fun c=>c.snd) (fun c=>c.fst) few5_K (few5_f (ePa.ag l,(↑l.length:Int),(0:Int),(0:Int)))
theorem fw5_okS (pre:DA.T aLP1→List Prop) (h:∀ g,DA.bd aLP1 g→(∀ p∈pre g,p)→fw5_side g):FnPure Tryz.prog 32 aLP1 dBool (fun g=>fw5_F g) pre:=pure_of_sideS (Γ:=(MTab.gamz tabW4 [] [])) (Λ:=lamW4) (MTab.okz tabW4 [] []) lamW4_ok 100 default (fun g=>fw5_side g) (fun g=>by kernel_rfl) (fun g=>by kernel_rfl) h
end Go.Proofs.YthnojkbkojpadaaGreat

namespace Go.Proofs.YthnojkbkojpadaaGreat
open Go.RowKit Go.Sx Go.Lp
set_option maxRecDepth 100000
theorem fw5_c:FnPure Tryz.prog 32 aLP1 dBool (fun l=>fw5_F l) (fun _=>[]):=fw5_okS (fun _=>[]) fun l hb _=>by
 show fw5_side l
 unfold fw5_side
 intro h
 simp only[El.okL_eq,El.ag_eq]
 exact ⟨trivial,ixJ0 rfl hb.1 trivial⟩
noncomputable def tabW6:MTab Tryz.prog:=tabW4.cons 32 (pconP aLP1 dBool (fun l=>fw5_F l) (fun _=>[])) (conP_ok fw5_c puB)
end Go.Proofs.YthnojkbkojpadaaGreat

namespace Go.Proofs.YthnojkbkojpadaaGreat
open Go.RowKit Go.Sx
set_option maxRecDepth 100000
set_option linter.unusedVariables false
abbrev aLPC1:DA (List Path×Change):=.cons dLP (.one dC)
noncomputable def lno_F (l:List Path) (c:Change):Dv.T dBool:=
 bif !fw5_F (ePa.ag l) then true else true
def lno_side (l:List Path) (c:Change):Prop:=
 (!true)=false→ePa.okL l
theorem lno_okS (pre:DA.T aLPC1→List Prop) (h:∀ g,DA.bd aLPC1 g→(∀ p∈pre g,p)→lno_side g.1 g.2):FnPure Tryz.prog 9 aLPC1 dBool (fun g=>lno_F g.1 g.2) pre:=pure_of_sideS (Γ:=(MTab.gamz tabW6 [] [(9,6,3)])) (Λ:=noΛ) (MTab.okz tabW6 [] [(9,6,3)]) noΛ_ok 100 default (fun g=>lno_side g.1 g.2) (fun g=>by kernel_rfl) (fun g=>by kernel_rfl) h
end Go.Proofs.YthnojkbkojpadaaGreat

namespace Go.Proofs.YthnojkbkojpadaaGreat
open Go.RowKit Go.Sx Go.Lp
theorem lno_ok:FnPure Tryz.prog 9 aLPC1 dBool (fun _=>true) (fun _=>[]):=
 pure_congr (lno_okS (fun _=>[]) fun g _ _=>by
  show lno_side g.1 g.2
  unfold lno_side
  intro _
  rw[El.okL_eq];trivial) fun g _ _=>by
  show lno_F g.1 g.2=true
  unfold lno_F
  cases fw5_F (ePa.ag g.1) <;> rfl
end Go.Proofs.YthnojkbkojpadaaGreat

namespace Go.Proofs.YthnojkbkojpadaaGreat
open Go.ChangeShapes Go.WideShapes Go.ChangeAt Go.RowKit Go.Sx
set_option maxRecDepth 100000 in
theorem ledgerNone_lifted (law:FnPure Tryz.prog 9 aLPC1 dBool (fun _=>true) (fun _=>[])) (os:Os) (started:os.Started) (H:Type) (enc:TypeId×Value→H) :
  ReturnsInHanded {} Tryz.checked os 9 .any (Rows.ledgerNoneSpec.pre6 enc Tryz.prog Tryz.f9 Rows.ledgerNoneRow.domain false) (Rows.ledgerNoneSpec.post enc Tryz.prog Tryz.f9 false true false false):=by
 refine returnsInHanded_of_change (C:=Tryz.checked) Tryz.own started (by kernel_rfl) Tryz.func9
  (ChangeSpec.witness6 (enc:=enc) (C:=Tryz.checked) false ⟨#[],#[.slice none 0 0,.agg #[.int .i64 0,.int .i64 0,.int .i64 0,.int .i64 0,.int .i64 0,.int .i64 0,.int .i64 0,.int .i64 0,.int .i64 0]],[]⟩ 8 (by kernel_rfl) (by kernel_rfl) (by kernel_rfl) (by kernel_rfl)) ?_
 intro W base args ds gs before hval0 hW hcnd _
 have hval:∀ (j:Nat) t v,Tryz.f9.params[j]?=some t→args[j]?=some v→Value.okWide Tryz.prog W .any base t v:=hval0
 have hW':=hW
 obtain ⟨p,q,hA0,hV,rfl,hfz,hnd⟩:=hW
 have hA:DataW.TrodAll enc Tryz.prog W 0 (fun _=>true) true Tryz.f9.params.toList args.toList ds p:=hA0
 rw[Tryz.params9] at hA hval
 obtain ⟨v0,vs0,d0,ds0,p0,qq0,hargs,rfl,rfl,h0,r0⟩:=trodAll_cons hA
 obtain ⟨v1,vs1,d1,ds1,p1,qq1,rfl,rfl,rfl,h1,r1⟩:=trodAll_cons r0
 obtain ⟨rfl,rfl,rfl⟩:=trodAll_nil r1
 obtain rfl:args=#[v0,v1]:=by cases args;simp_all
 obtain ⟨rfl,rfl⟩:=trodVars_none hV
 obtain ⟨a0,q0,f0⟩:=rdvLP _ _ _ _ _ _ _ _ _ _ _ (hval 0 22 v0 rfl rfl) h0
 obtain ⟨a1,q1,f1⟩:=rdvC _ _ _ _ _ _ _ _ _ _ _ (hval 1 59 v1 rfl rfl) h1
 have lt:∀ {t:TypeId} {v:Value} {d:DataW H} {ps:List MemPlace},DataW.Trod enc Tryz.prog W 0 (fun _=>true) true t v d ps→∀ x∈ps,x.block<W.heap.size:=by
  rintro t v d ps ⟨m,hm⟩
  exact DataW.trod_lt m _ _ _ hm
 clear hA0 hval0
 refine (law W (fun b=>W.heap[b]?) (a0,a1) [v0,v1] (fun _ _ h=>h) trivial (by simp) ⟨f0,f1,trivial⟩).mono fun e W' ⟨x,he,bel,hx⟩=>?_
 obtain rfl:x=.bool true:=by simpa [dBool,SV.fit] using hx
 subst he
 exact ⟨_,rfl,_,_,_,[],_,[],hW',trodAll_mk1 (shut_bool Tryz.underlying4 _),
  (trodAll_cons_mk (Below.trod Tryz.laidOut (by kernel_rfl) (of_decide_eq_true (by kernel_rfl)) h0 bel (lt h0))
  (trodAll_cons_mk (Below.trod Tryz.laidOut (by kernel_rfl) (of_decide_eq_true (by kernel_rfl)) h1 bel (lt h1)) trodAll_mk0)),rfl,bel.frame _,fun h=>by cases h⟩
theorem ledgerNone_over (law:FnPure Tryz.prog 9 aLPC1 dBool (fun _=>true) (fun _=>[])):Rows.LedgerNoneSaid:=
 OpenClaim.holds_of_wide 9 Tryz.f9 rfl rfl rfl rfl rfl rfl rfl ⟨rfl,rfl,rfl,rfl,rfl⟩ rfl rfl rfl rfl rfl (by kernel_rfl) Tryz.func9 (by kernel_rfl)
  (of_decide_eq_true (by kernel_rfl)) (by unfold Func.isWrapper;first | (rw[if_pos (by decide +kernel)];kernel_rfl) | (rw[if_neg (by decide +kernel)];exact ⟨rfl,rfl⟩))
  (fun os started H enc _=>ledgerNone_lifted law os started H enc)
end Go.Proofs.YthnojkbkojpadaaGreat

namespace Go.Proofs.YthnojkbkojpadaaGreat
open Go.RowKit Go.Sx
theorem ledgerNone_holds:Rows.LedgerNoneSaid:=ledgerNone_over lno_ok
end Go.Proofs.YthnojkbkojpadaaGreat
