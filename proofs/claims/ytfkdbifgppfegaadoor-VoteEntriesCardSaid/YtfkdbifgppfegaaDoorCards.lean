/-
  DERIVED. GIVEN WITH THE SEED: THE CARDS: each row of YtfkdbifgppfegaaDoorRows.lean that lists a variable, with what it lists TIED to the program's text (the seventh form; the later family's looks); each row that meets fmt, with fmt's text TOLD by the authors' own Lean function (tested against real Go, not proved from fmt's source: count such statements apart). THE CARD IS WHAT COUNTS. Prove the row's statement (the work); the ties are given (YtfkdbifgppfegaaDoorTie.lean); close each card by the builder's one call (the guide's Derived/Test/ToyasCard.lean, 'card_holds'). Laid BY PROGRAM, IN A SANDBOX (cutbox-door.mjs). By AI agents, Wed Nov 11 2026. No macro, syntax, notation, axiom, sorry.
-/
import Derived.Test.YtfkdbifgppfegaaDoorRows
import GoSem.ClaimSeven
namespace Go.Proofs.YtfkdbifgppfegaaDoor
namespace Rows

/-- THE TIED CARD OF 'rivuletlaw21.VoteBack'. -/
def voteBackCard : Claim7 := { stood := { row := voteBackRow, standIns := [], harness := (true, "52912e261b64727618714ac4c8b505d61cbd702586b223c189c270799d03a0f4"), looks := false }, kinds := [], alts := [], laidByText := true, laidKinds := [.data, .pinned], laidTests := true, laidLooks := .later }
def VoteBackCardSaid : Prop := Claim7.holds Tryd.pinned (.plain (OpenSpec.ofChange voteBackSpec)) voteBackCard

/-- THE TIED CARD OF 'rivuletlaw21.VoteRuns'. -/
def voteRunsCard : Claim7 := { stood := { row := voteRunsRow, standIns := [], harness := (true, "52912e261b64727618714ac4c8b505d61cbd702586b223c189c270799d03a0f4"), looks := false }, kinds := [], alts := [], laidByText := true, laidKinds := [.data, .pinned], laidTests := true, laidLooks := .later }
def VoteRunsCardSaid : Prop := Claim7.holds Tryd.pinned (.plain (OpenSpec.ofChange voteRunsSpec)) voteRunsCard

/-- THE TIED CARD OF 'rivuletlaw21.VoteAll'. -/
def voteAllCard : Claim7 := { stood := { row := voteAllRow, standIns := [], harness := (true, "52912e261b64727618714ac4c8b505d61cbd702586b223c189c270799d03a0f4"), looks := false }, kinds := [], alts := [], laidByText := true, laidKinds := [.data, .pinned], laidTests := true, laidLooks := .later }
def VoteAllCardSaid : Prop := Claim7.holds Tryd.pinned (.plain (OpenSpec.ofChange voteAllSpec)) voteAllCard

/-- THE TIED CARD OF 'rivuletlaw21.VoteOne'. -/
def voteOneCard : Claim7 := { stood := { row := voteOneRow, standIns := [], harness := (true, "52912e261b64727618714ac4c8b505d61cbd702586b223c189c270799d03a0f4"), looks := false }, kinds := [], alts := [], laidByText := true, laidKinds := [.data, .pinned], laidTests := true, laidLooks := .later }
def VoteOneCardSaid : Prop := Claim7.holds Tryd.pinned (.plain (OpenSpec.ofChange voteOneSpec)) voteOneCard

/-- THE TIED CARD OF 'rivuletlaw21.VoteEntries'. -/
def voteEntriesCard : Claim7 := { stood := { row := voteEntriesRow, standIns := [], harness := (true, "52912e261b64727618714ac4c8b505d61cbd702586b223c189c270799d03a0f4"), looks := false }, kinds := [], alts := [], laidByText := true, laidKinds := [.data, .pinned], laidTests := true, laidLooks := .later }
def VoteEntriesCardSaid : Prop := Claim7.holds Tryd.pinned (.plain (OpenSpec.ofChange voteEntriesSpec)) voteEntriesCard

/-- THE SECOND FORM's CARD OF 'rivuletlaw21.VoteBack'. -/
def voteBackUptoCard : Claim7 := { stood := { row := voteBackUptoRow, standIns := [], harness := (true, "52912e261b64727618714ac4c8b505d61cbd702586b223c189c270799d03a0f4"), looks := false }, kinds := [], alts := [], laidByText := true, laidKinds := [.data, .pinned], laidTests := true, laidLooks := .later }
def VoteBackUptoCardSaid : Prop := Claim7.holds Tryd.pinned (.plain (OpenSpec.upto voteBackSpec)) voteBackUptoCard

/-- THE SECOND FORM's CARD OF 'rivuletlaw21.VoteRuns'. -/
def voteRunsUptoCard : Claim7 := { stood := { row := voteRunsUptoRow, standIns := [], harness := (true, "52912e261b64727618714ac4c8b505d61cbd702586b223c189c270799d03a0f4"), looks := false }, kinds := [], alts := [], laidByText := true, laidKinds := [.data, .pinned], laidTests := true, laidLooks := .later }
def VoteRunsUptoCardSaid : Prop := Claim7.holds Tryd.pinned (.plain (OpenSpec.upto voteRunsSpec)) voteRunsUptoCard

/-- THE SECOND FORM's CARD OF 'rivuletlaw21.VoteAll'. -/
def voteAllUptoCard : Claim7 := { stood := { row := voteAllUptoRow, standIns := [], harness := (true, "52912e261b64727618714ac4c8b505d61cbd702586b223c189c270799d03a0f4"), looks := false }, kinds := [], alts := [], laidByText := true, laidKinds := [.data, .pinned], laidTests := true, laidLooks := .later }
def VoteAllUptoCardSaid : Prop := Claim7.holds Tryd.pinned (.plain (OpenSpec.upto voteAllSpec)) voteAllUptoCard

/-- THE SECOND FORM's CARD OF 'rivuletlaw21.VoteOne'. -/
def voteOneUptoCard : Claim7 := { stood := { row := voteOneUptoRow, standIns := [], harness := (true, "52912e261b64727618714ac4c8b505d61cbd702586b223c189c270799d03a0f4"), looks := false }, kinds := [], alts := [], laidByText := true, laidKinds := [.data, .pinned], laidTests := true, laidLooks := .later }
def VoteOneUptoCardSaid : Prop := Claim7.holds Tryd.pinned (.plain (OpenSpec.upto voteOneSpec)) voteOneUptoCard

/-- THE SECOND FORM's CARD OF 'rivuletlaw21.VoteEntries'. -/
def voteEntriesUptoCard : Claim7 := { stood := { row := voteEntriesUptoRow, standIns := [], harness := (true, "52912e261b64727618714ac4c8b505d61cbd702586b223c189c270799d03a0f4"), looks := false }, kinds := [], alts := [], laidByText := true, laidKinds := [.data, .pinned], laidTests := true, laidLooks := .later }
def VoteEntriesUptoCardSaid : Prop := Claim7.holds Tryd.pinned (.plain (OpenSpec.upto voteEntriesSpec)) voteEntriesUptoCard
end Rows
end Go.Proofs.YtfkdbifgppfegaaDoor
