/-
  DERIVED. GIVEN WITH THE SEED: THE CARDS: each row of YtapdglacmebbaaaDoorRows.lean that lists a variable, with what it lists TIED to the program's text (the seventh form; the later family's looks); each row that meets fmt, with fmt's text TOLD by the authors' own Lean function (tested against real Go, not proved from fmt's source: count such statements apart). THE CARD IS WHAT COUNTS. Prove the row's statement (the work); the ties are given (YtapdglacmebbaaaDoorTie.lean); close each card by the builder's one call (the guide's Derived/Test/ToyasCard.lean, 'card_holds'). Laid BY PROGRAM, IN A SANDBOX (cutbox-door.mjs). By AI agents, Wed Nov 11 2026. No macro, syntax, notation, axiom, sorry.
-/
import Derived.Test.YtapdglacmebbaaaDoorRows
import GoSem.ClaimSeven
namespace Go.Proofs.YtapdglacmebbaaaDoor
namespace Rows

/-- THE TIED CARD OF 'rivuletlaw27.ScriptOne'. -/
def scriptOneCard : Claim7 := { stood := { row := scriptOneRow, standIns := [], harness := (true, "1fa8a138a45b84df1300b1ffcb2fc2d8977eac32ce63debdf0ebdf7f8e425af6"), looks := false }, kinds := [], alts := [], laidByText := true, laidKinds := [.data, .pinned], laidTests := true, laidLooks := .later }
def ScriptOneCardSaid : Prop := Claim7.holds Tryd.pinned (.plain (OpenSpec.ofChange scriptOneSpec)) scriptOneCard

/-- THE TIED CARD OF 'rivuletlaw27.ScriptNodes'. -/
def scriptNodesCard : Claim7 := { stood := { row := scriptNodesRow, standIns := [], harness := (true, "1fa8a138a45b84df1300b1ffcb2fc2d8977eac32ce63debdf0ebdf7f8e425af6"), looks := false }, kinds := [], alts := [], laidByText := true, laidKinds := [.data, .pinned], laidTests := true, laidLooks := .later }
def ScriptNodesCardSaid : Prop := Claim7.holds Tryd.pinned (.plain (OpenSpec.ofChange scriptNodesSpec)) scriptNodesCard

/-- THE TIED CARD OF 'rivuletlaw27.ScriptBack'. -/
def scriptBackCard : Claim7 := { stood := { row := scriptBackRow, standIns := [], harness := (true, "1fa8a138a45b84df1300b1ffcb2fc2d8977eac32ce63debdf0ebdf7f8e425af6"), looks := false }, kinds := [], alts := [], laidByText := true, laidKinds := [.data, .pinned], laidTests := true, laidLooks := .later }
def ScriptBackCardSaid : Prop := Claim7.holds Tryd.pinned (.plain (OpenSpec.ofChange scriptBackSpec)) scriptBackCard

/-- THE SECOND FORM's CARD OF 'rivuletlaw27.ScriptOne'. -/
def scriptOneUptoCard : Claim7 := { stood := { row := scriptOneUptoRow, standIns := [], harness := (true, "1fa8a138a45b84df1300b1ffcb2fc2d8977eac32ce63debdf0ebdf7f8e425af6"), looks := false }, kinds := [], alts := [], laidByText := true, laidKinds := [.data, .pinned], laidTests := true, laidLooks := .later }
def ScriptOneUptoCardSaid : Prop := Claim7.holds Tryd.pinned (.plain (OpenSpec.upto scriptOneSpec)) scriptOneUptoCard

/-- THE SECOND FORM's CARD OF 'rivuletlaw27.ScriptNodes'. -/
def scriptNodesUptoCard : Claim7 := { stood := { row := scriptNodesUptoRow, standIns := [], harness := (true, "1fa8a138a45b84df1300b1ffcb2fc2d8977eac32ce63debdf0ebdf7f8e425af6"), looks := false }, kinds := [], alts := [], laidByText := true, laidKinds := [.data, .pinned], laidTests := true, laidLooks := .later }
def ScriptNodesUptoCardSaid : Prop := Claim7.holds Tryd.pinned (.plain (OpenSpec.upto scriptNodesSpec)) scriptNodesUptoCard

/-- THE SECOND FORM's CARD OF 'rivuletlaw27.ScriptBack'. -/
def scriptBackUptoCard : Claim7 := { stood := { row := scriptBackUptoRow, standIns := [], harness := (true, "1fa8a138a45b84df1300b1ffcb2fc2d8977eac32ce63debdf0ebdf7f8e425af6"), looks := false }, kinds := [], alts := [], laidByText := true, laidKinds := [.data, .pinned], laidTests := true, laidLooks := .later }
def ScriptBackUptoCardSaid : Prop := Claim7.holds Tryd.pinned (.plain (OpenSpec.upto scriptBackSpec)) scriptBackUptoCard
end Rows
end Go.Proofs.YtapdglacmebbaaaDoor
