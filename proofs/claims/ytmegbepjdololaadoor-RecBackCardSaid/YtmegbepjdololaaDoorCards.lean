/-
  DERIVED. GIVEN WITH THE SEED: THE CARDS: each row of YtmegbepjdololaaDoorRows.lean that lists a variable, with what it lists TIED to the program's text (the seventh form; the later family's looks); each row that meets fmt, with fmt's text TOLD by the authors' own Lean function (tested against real Go, not proved from fmt's source: count such statements apart). THE CARD IS WHAT COUNTS. Prove the row's statement (the work); the ties are given (YtmegbepjdololaaDoorTie.lean); close each card by the builder's one call (the guide's Derived/Test/ToyasCard.lean, 'card_holds'). Laid BY PROGRAM, IN A SANDBOX (cutbox-door.mjs). By AI agents, Wed Nov 11 2026. No macro, syntax, notation, axiom, sorry.
-/
import Derived.Test.YtmegbepjdololaaDoorRows
import GoSem.ClaimSeven
namespace Go.Proofs.YtmegbepjdololaaDoor
namespace Rows

/-- THE TIED CARD OF 'rivuletlaw05.RecRunes'. -/
def recRunesCard : Claim7 := { stood := { row := recRunesRow, standIns := [], harness := (true, "32193793d8c897b5bc8816bf3022b22418d0ad242f639242150ef454e65964bb"), looks := false }, kinds := [], alts := [], laidByText := true, laidKinds := [.data, .pinned], laidTests := true, laidLooks := .later }
def RecRunesCardSaid : Prop := Claim7.holds Tryd.pinned (.plain (OpenSpec.ofChange recRunesSpec)) recRunesCard

/-- THE TIED CARD OF 'rivuletlaw05.RecCuts'. -/
def recCutsCard : Claim7 := { stood := { row := recCutsRow, standIns := [], harness := (true, "32193793d8c897b5bc8816bf3022b22418d0ad242f639242150ef454e65964bb"), looks := false }, kinds := [], alts := [], laidByText := true, laidKinds := [.data, .pinned], laidTests := true, laidLooks := .later }
def RecCutsCardSaid : Prop := Claim7.holds Tryd.pinned (.plain (OpenSpec.ofChange recCutsSpec)) recCutsCard

/-- THE TIED CARD OF 'rivuletlaw05.RecBags'. -/
def recBagsCard : Claim7 := { stood := { row := recBagsRow, standIns := [], harness := (true, "32193793d8c897b5bc8816bf3022b22418d0ad242f639242150ef454e65964bb"), looks := false }, kinds := [], alts := [], laidByText := true, laidKinds := [.data, .pinned], laidTests := true, laidLooks := .later }
def RecBagsCardSaid : Prop := Claim7.holds Tryd.pinned (.plain (OpenSpec.ofChange recBagsSpec)) recBagsCard

/-- THE TIED CARD OF 'rivuletlaw05.RecBag'. -/
def recBagCard : Claim7 := { stood := { row := recBagRow, standIns := [], harness := (true, "32193793d8c897b5bc8816bf3022b22418d0ad242f639242150ef454e65964bb"), looks := false }, kinds := [], alts := [], laidByText := true, laidKinds := [.data, .pinned], laidTests := true, laidLooks := .later }
def RecBagCardSaid : Prop := Claim7.holds Tryd.pinned (.plain (OpenSpec.ofChange recBagSpec)) recBagCard

/-- THE TIED CARD OF 'rivuletlaw05.RecSums'. -/
def recSumsCard : Claim7 := { stood := { row := recSumsRow, standIns := [], harness := (true, "32193793d8c897b5bc8816bf3022b22418d0ad242f639242150ef454e65964bb"), looks := false }, kinds := [], alts := [], laidByText := true, laidKinds := [.data, .pinned], laidTests := true, laidLooks := .later }
def RecSumsCardSaid : Prop := Claim7.holds Tryd.pinned (.plain (OpenSpec.ofChange recSumsSpec)) recSumsCard

/-- THE TIED CARD OF 'rivuletlaw05.RecTexts'. -/
def recTextsCard : Claim7 := { stood := { row := recTextsRow, standIns := [], harness := (true, "32193793d8c897b5bc8816bf3022b22418d0ad242f639242150ef454e65964bb"), looks := false }, kinds := [], alts := [], laidByText := true, laidKinds := [.data, .pinned], laidTests := true, laidLooks := .later }
def RecTextsCardSaid : Prop := Claim7.holds Tryd.pinned (.plain (OpenSpec.ofChange recTextsSpec)) recTextsCard

/-- THE TIED CARD OF 'rivuletlaw05.RecBack'. -/
def recBackCard : Claim7 := { stood := { row := recBackRow, standIns := [], harness := (true, "32193793d8c897b5bc8816bf3022b22418d0ad242f639242150ef454e65964bb"), looks := false }, kinds := [], alts := [], laidByText := true, laidKinds := [.data, .pinned], laidTests := true, laidLooks := .later }
def RecBackCardSaid : Prop := Claim7.holds Tryd.pinned (.plain (OpenSpec.ofChange recBackSpec)) recBackCard

/-- THE TIED CARD OF 'rivuletlaw06.FnTwice'. -/
def fnTwiceCard : Claim7 := { stood := { row := fnTwiceRow, standIns := [], harness := (true, "32193793d8c897b5bc8816bf3022b22418d0ad242f639242150ef454e65964bb"), looks := false }, kinds := [], alts := [], laidByText := true, laidKinds := [.data, .pinned], laidTests := true, laidLooks := .later }
def FnTwiceCardSaid : Prop := Claim7.holds Tryd.pinned (.plain (OpenSpec.ofChange fnTwiceSpec)) fnTwiceCard

/-- THE TIED CARD OF 'rivuletlaw06.FnChecks'. -/
def fnChecksCard : Claim7 := { stood := { row := fnChecksRow, standIns := [], harness := (true, "32193793d8c897b5bc8816bf3022b22418d0ad242f639242150ef454e65964bb"), looks := false }, kinds := [], alts := [], laidByText := true, laidKinds := [.data, .pinned], laidTests := true, laidLooks := .later }
def FnChecksCardSaid : Prop := Claim7.holds Tryd.pinned (.plain (OpenSpec.ofChange fnChecksSpec)) fnChecksCard

/-- THE TIED CARD OF 'rivuletlaw06.FnRecords'. -/
def fnRecordsCard : Claim7 := { stood := { row := fnRecordsRow, standIns := [], harness := (true, "32193793d8c897b5bc8816bf3022b22418d0ad242f639242150ef454e65964bb"), looks := false }, kinds := [], alts := [], laidByText := true, laidKinds := [.data, .pinned], laidTests := true, laidLooks := .later }
def FnRecordsCardSaid : Prop := Claim7.holds Tryd.pinned (.plain (OpenSpec.ofChange fnRecordsSpec)) fnRecordsCard

/-- THE TIED CARD OF 'rivuletlaw06.FnReduces'. -/
def fnReducesCard : Claim7 := { stood := { row := fnReducesRow, standIns := [], harness := (true, "32193793d8c897b5bc8816bf3022b22418d0ad242f639242150ef454e65964bb"), looks := false }, kinds := [], alts := [], laidByText := true, laidKinds := [.data, .pinned], laidTests := true, laidLooks := .later }
def FnReducesCardSaid : Prop := Claim7.holds Tryd.pinned (.plain (OpenSpec.ofChange fnReducesSpec)) fnReducesCard

/-- THE TIED CARD OF 'rivuletlaw06.FnPieces'. -/
def fnPiecesCard : Claim7 := { stood := { row := fnPiecesRow, standIns := [], harness := (true, "32193793d8c897b5bc8816bf3022b22418d0ad242f639242150ef454e65964bb"), looks := false }, kinds := [], alts := [], laidByText := true, laidKinds := [.data, .pinned], laidTests := true, laidLooks := .later }
def FnPiecesCardSaid : Prop := Claim7.holds Tryd.pinned (.plain (OpenSpec.ofChange fnPiecesSpec)) fnPiecesCard

/-- THE TIED CARD OF 'rivuletlaw06.FnMakes'. -/
def fnMakesCard : Claim7 := { stood := { row := fnMakesRow, standIns := [], harness := (true, "32193793d8c897b5bc8816bf3022b22418d0ad242f639242150ef454e65964bb"), looks := false }, kinds := [], alts := [], laidByText := true, laidKinds := [.data, .pinned], laidTests := true, laidLooks := .later }
def FnMakesCardSaid : Prop := Claim7.holds Tryd.pinned (.plain (OpenSpec.ofChange fnMakesSpec)) fnMakesCard

/-- THE SECOND FORM's CARD OF 'rivuletlaw05.RecRunes'. -/
def recRunesUptoCard : Claim7 := { stood := { row := recRunesUptoRow, standIns := [], harness := (true, "32193793d8c897b5bc8816bf3022b22418d0ad242f639242150ef454e65964bb"), looks := false }, kinds := [], alts := [], laidByText := true, laidKinds := [.data, .pinned], laidTests := true, laidLooks := .later }
def RecRunesUptoCardSaid : Prop := Claim7.holds Tryd.pinned (.plain (OpenSpec.upto recRunesSpec)) recRunesUptoCard

/-- THE SECOND FORM's CARD OF 'rivuletlaw05.RecCuts'. -/
def recCutsUptoCard : Claim7 := { stood := { row := recCutsUptoRow, standIns := [], harness := (true, "32193793d8c897b5bc8816bf3022b22418d0ad242f639242150ef454e65964bb"), looks := false }, kinds := [], alts := [], laidByText := true, laidKinds := [.data, .pinned], laidTests := true, laidLooks := .later }
def RecCutsUptoCardSaid : Prop := Claim7.holds Tryd.pinned (.plain (OpenSpec.upto recCutsSpec)) recCutsUptoCard

/-- THE SECOND FORM's CARD OF 'rivuletlaw05.RecBags'. -/
def recBagsUptoCard : Claim7 := { stood := { row := recBagsUptoRow, standIns := [], harness := (true, "32193793d8c897b5bc8816bf3022b22418d0ad242f639242150ef454e65964bb"), looks := false }, kinds := [], alts := [], laidByText := true, laidKinds := [.data, .pinned], laidTests := true, laidLooks := .later }
def RecBagsUptoCardSaid : Prop := Claim7.holds Tryd.pinned (.plain (OpenSpec.upto recBagsSpec)) recBagsUptoCard

/-- THE SECOND FORM's CARD OF 'rivuletlaw05.RecBag'. -/
def recBagUptoCard : Claim7 := { stood := { row := recBagUptoRow, standIns := [], harness := (true, "32193793d8c897b5bc8816bf3022b22418d0ad242f639242150ef454e65964bb"), looks := false }, kinds := [], alts := [], laidByText := true, laidKinds := [.data, .pinned], laidTests := true, laidLooks := .later }
def RecBagUptoCardSaid : Prop := Claim7.holds Tryd.pinned (.plain (OpenSpec.upto recBagSpec)) recBagUptoCard

/-- THE SECOND FORM's CARD OF 'rivuletlaw05.RecSums'. -/
def recSumsUptoCard : Claim7 := { stood := { row := recSumsUptoRow, standIns := [], harness := (true, "32193793d8c897b5bc8816bf3022b22418d0ad242f639242150ef454e65964bb"), looks := false }, kinds := [], alts := [], laidByText := true, laidKinds := [.data, .pinned], laidTests := true, laidLooks := .later }
def RecSumsUptoCardSaid : Prop := Claim7.holds Tryd.pinned (.plain (OpenSpec.upto recSumsSpec)) recSumsUptoCard

/-- THE SECOND FORM's CARD OF 'rivuletlaw05.RecTexts'. -/
def recTextsUptoCard : Claim7 := { stood := { row := recTextsUptoRow, standIns := [], harness := (true, "32193793d8c897b5bc8816bf3022b22418d0ad242f639242150ef454e65964bb"), looks := false }, kinds := [], alts := [], laidByText := true, laidKinds := [.data, .pinned], laidTests := true, laidLooks := .later }
def RecTextsUptoCardSaid : Prop := Claim7.holds Tryd.pinned (.plain (OpenSpec.upto recTextsSpec)) recTextsUptoCard

/-- THE SECOND FORM's CARD OF 'rivuletlaw05.RecBack'. -/
def recBackUptoCard : Claim7 := { stood := { row := recBackUptoRow, standIns := [], harness := (true, "32193793d8c897b5bc8816bf3022b22418d0ad242f639242150ef454e65964bb"), looks := false }, kinds := [], alts := [], laidByText := true, laidKinds := [.data, .pinned], laidTests := true, laidLooks := .later }
def RecBackUptoCardSaid : Prop := Claim7.holds Tryd.pinned (.plain (OpenSpec.upto recBackSpec)) recBackUptoCard

/-- THE SECOND FORM's CARD OF 'rivuletlaw06.FnTwice'. -/
def fnTwiceUptoCard : Claim7 := { stood := { row := fnTwiceUptoRow, standIns := [], harness := (true, "32193793d8c897b5bc8816bf3022b22418d0ad242f639242150ef454e65964bb"), looks := false }, kinds := [], alts := [], laidByText := true, laidKinds := [.data, .pinned], laidTests := true, laidLooks := .later }
def FnTwiceUptoCardSaid : Prop := Claim7.holds Tryd.pinned (.plain (OpenSpec.upto fnTwiceSpec)) fnTwiceUptoCard

/-- THE SECOND FORM's CARD OF 'rivuletlaw06.FnChecks'. -/
def fnChecksUptoCard : Claim7 := { stood := { row := fnChecksUptoRow, standIns := [], harness := (true, "32193793d8c897b5bc8816bf3022b22418d0ad242f639242150ef454e65964bb"), looks := false }, kinds := [], alts := [], laidByText := true, laidKinds := [.data, .pinned], laidTests := true, laidLooks := .later }
def FnChecksUptoCardSaid : Prop := Claim7.holds Tryd.pinned (.plain (OpenSpec.upto fnChecksSpec)) fnChecksUptoCard

/-- THE SECOND FORM's CARD OF 'rivuletlaw06.FnRecords'. -/
def fnRecordsUptoCard : Claim7 := { stood := { row := fnRecordsUptoRow, standIns := [], harness := (true, "32193793d8c897b5bc8816bf3022b22418d0ad242f639242150ef454e65964bb"), looks := false }, kinds := [], alts := [], laidByText := true, laidKinds := [.data, .pinned], laidTests := true, laidLooks := .later }
def FnRecordsUptoCardSaid : Prop := Claim7.holds Tryd.pinned (.plain (OpenSpec.upto fnRecordsSpec)) fnRecordsUptoCard

/-- THE SECOND FORM's CARD OF 'rivuletlaw06.FnReduces'. -/
def fnReducesUptoCard : Claim7 := { stood := { row := fnReducesUptoRow, standIns := [], harness := (true, "32193793d8c897b5bc8816bf3022b22418d0ad242f639242150ef454e65964bb"), looks := false }, kinds := [], alts := [], laidByText := true, laidKinds := [.data, .pinned], laidTests := true, laidLooks := .later }
def FnReducesUptoCardSaid : Prop := Claim7.holds Tryd.pinned (.plain (OpenSpec.upto fnReducesSpec)) fnReducesUptoCard

/-- THE SECOND FORM's CARD OF 'rivuletlaw06.FnPieces'. -/
def fnPiecesUptoCard : Claim7 := { stood := { row := fnPiecesUptoRow, standIns := [], harness := (true, "32193793d8c897b5bc8816bf3022b22418d0ad242f639242150ef454e65964bb"), looks := false }, kinds := [], alts := [], laidByText := true, laidKinds := [.data, .pinned], laidTests := true, laidLooks := .later }
def FnPiecesUptoCardSaid : Prop := Claim7.holds Tryd.pinned (.plain (OpenSpec.upto fnPiecesSpec)) fnPiecesUptoCard

/-- THE SECOND FORM's CARD OF 'rivuletlaw06.FnMakes'. -/
def fnMakesUptoCard : Claim7 := { stood := { row := fnMakesUptoRow, standIns := [], harness := (true, "32193793d8c897b5bc8816bf3022b22418d0ad242f639242150ef454e65964bb"), looks := false }, kinds := [], alts := [], laidByText := true, laidKinds := [.data, .pinned], laidTests := true, laidLooks := .later }
def FnMakesUptoCardSaid : Prop := Claim7.holds Tryd.pinned (.plain (OpenSpec.upto fnMakesSpec)) fnMakesUptoCard
end Rows
end Go.Proofs.YtmegbepjdololaaDoor
