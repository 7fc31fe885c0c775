/-
  DERIVED. GIVEN WITH THE SEED: THE CARDS: each row of YthfneaaenlgegaaGreatDoorRows.lean that lists a variable, with what it lists TIED to the program's text (the seventh form; the later family's looks); each row that meets fmt, with fmt's text TOLD by the authors' own Lean function (tested against real Go, not proved from fmt's source: count such statements apart). THE CARD IS WHAT COUNTS. Prove the row's statement (the work); the ties are given (YthfneaaenlgegaaGreatDoorTie.lean); close each card by the builder's one call (the guide's Derived/Test/ToyasCard.lean, 'card_holds'). Laid BY PROGRAM, IN A SANDBOX (cutbox-door.mjs). By AI agents, Wed Nov 11 2026. No macro, syntax, notation, axiom, sorry.
-/
import Derived.Test.YthfneaaenlgegaaGreatDoorRows
import GoSem.ClaimSeven
namespace Go.Proofs.YthfneaaenlgegaaGreatDoor
namespace Rows

/-- THE TIED CARD OF 'laws.FnChangeMode'. -/
def fnChangeModeCard : Claim7 := { stood := { row := fnChangeModeRow, standIns := [], harness := (true, "b975c8fb11b2e5bf5817b7acbf93caa813a17e3fd0c35635ecc9dfefc12993f7"), looks := false }, kinds := [], alts := [], laidByText := true, laidKinds := [.data, .pinned], laidTests := true, laidLooks := .later }
def FnChangeModeCardSaid : Prop := Claim7.holds Tryz.pinned (.plain (OpenSpec.ofChange fnChangeModeSpec)) fnChangeModeCard

/-- THE TIED CARD OF 'laws.FnGiveNode'. -/
def fnGiveNodeCard : Claim7 := { stood := { row := fnGiveNodeRow, standIns := [], harness := (true, "b975c8fb11b2e5bf5817b7acbf93caa813a17e3fd0c35635ecc9dfefc12993f7"), looks := false }, kinds := [], alts := [], laidByText := true, laidKinds := [.data, .pinned], laidTests := true, laidLooks := .later }
def FnGiveNodeCardSaid : Prop := Claim7.holds Tryz.pinned (.plain (OpenSpec.ofChange fnGiveNodeSpec)) fnGiveNodeCard

/-- THE TIED CARD OF 'laws.FnListNames'. -/
def fnListNamesCard : Claim7 := { stood := { row := fnListNamesRow, standIns := [], harness := (true, "b975c8fb11b2e5bf5817b7acbf93caa813a17e3fd0c35635ecc9dfefc12993f7"), looks := false }, kinds := [], alts := [], laidByText := true, laidKinds := [.data, .pinned], laidTests := true, laidLooks := .later }
def FnListNamesCardSaid : Prop := Claim7.holds Tryz.pinned (.plain (OpenSpec.ofChange fnListNamesSpec)) fnListNamesCard

/-- THE TIED CARD OF 'laws.FnWriteFile'. -/
def fnWriteFileCard : Claim7 := { stood := { row := fnWriteFileRow, standIns := [], harness := (true, "b975c8fb11b2e5bf5817b7acbf93caa813a17e3fd0c35635ecc9dfefc12993f7"), looks := false }, kinds := [], alts := [], laidByText := true, laidKinds := [.data, .pinned], laidTests := true, laidLooks := .later }
def FnWriteFileCardSaid : Prop := Claim7.holds Tryz.pinned (.plain (OpenSpec.ofChange fnWriteFileSpec)) fnWriteFileCard

/-- THE SECOND FORM's CARD OF 'laws.FnChangeMode'. -/
def fnChangeModeUptoCard : Claim7 := { stood := { row := fnChangeModeUptoRow, standIns := [], harness := (true, "b975c8fb11b2e5bf5817b7acbf93caa813a17e3fd0c35635ecc9dfefc12993f7"), looks := false }, kinds := [], alts := [], laidByText := true, laidKinds := [.data, .pinned], laidTests := true, laidLooks := .later }
def FnChangeModeUptoCardSaid : Prop := Claim7.holds Tryz.pinned (.plain (OpenSpec.upto fnChangeModeSpec)) fnChangeModeUptoCard

/-- THE SECOND FORM's CARD OF 'laws.FnGiveNode'. -/
def fnGiveNodeUptoCard : Claim7 := { stood := { row := fnGiveNodeUptoRow, standIns := [], harness := (true, "b975c8fb11b2e5bf5817b7acbf93caa813a17e3fd0c35635ecc9dfefc12993f7"), looks := false }, kinds := [], alts := [], laidByText := true, laidKinds := [.data, .pinned], laidTests := true, laidLooks := .later }
def FnGiveNodeUptoCardSaid : Prop := Claim7.holds Tryz.pinned (.plain (OpenSpec.upto fnGiveNodeSpec)) fnGiveNodeUptoCard

/-- THE SECOND FORM's CARD OF 'laws.FnListNames'. -/
def fnListNamesUptoCard : Claim7 := { stood := { row := fnListNamesUptoRow, standIns := [], harness := (true, "b975c8fb11b2e5bf5817b7acbf93caa813a17e3fd0c35635ecc9dfefc12993f7"), looks := false }, kinds := [], alts := [], laidByText := true, laidKinds := [.data, .pinned], laidTests := true, laidLooks := .later }
def FnListNamesUptoCardSaid : Prop := Claim7.holds Tryz.pinned (.plain (OpenSpec.upto fnListNamesSpec)) fnListNamesUptoCard

/-- THE SECOND FORM's CARD OF 'laws.FnWriteFile'. -/
def fnWriteFileUptoCard : Claim7 := { stood := { row := fnWriteFileUptoRow, standIns := [], harness := (true, "b975c8fb11b2e5bf5817b7acbf93caa813a17e3fd0c35635ecc9dfefc12993f7"), looks := false }, kinds := [], alts := [], laidByText := true, laidKinds := [.data, .pinned], laidTests := true, laidLooks := .later }
def FnWriteFileUptoCardSaid : Prop := Claim7.holds Tryz.pinned (.plain (OpenSpec.upto fnWriteFileSpec)) fnWriteFileUptoCard
end Rows
end Go.Proofs.YthfneaaenlgegaaGreatDoor
