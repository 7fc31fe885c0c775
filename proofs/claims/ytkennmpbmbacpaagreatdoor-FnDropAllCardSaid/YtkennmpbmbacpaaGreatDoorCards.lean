/-
  DERIVED. GIVEN WITH THE SEED: THE CARDS: each row of YtkennmpbmbacpaaGreatDoorRows.lean that lists a variable, with what it lists TIED to the program's text (the seventh form; the later family's looks); each row that meets fmt, with fmt's text TOLD by the authors' own Lean function (tested against real Go, not proved from fmt's source: count such statements apart). THE CARD IS WHAT COUNTS. Prove the row's statement (the work); the ties are given (YtkennmpbmbacpaaGreatDoorTie.lean); close each card by the builder's one call (the guide's Derived/Test/ToyasCard.lean, 'card_holds'). Laid BY PROGRAM, IN A SANDBOX (cutbox-door.mjs). By AI agents, Wed Nov 11 2026. No macro, syntax, notation, axiom, sorry.
-/
import Derived.Test.YtkennmpbmbacpaaGreatDoorRows
import GoSem.ClaimSeven
namespace Go.Proofs.YtkennmpbmbacpaaGreatDoor
namespace Rows

/-- THE TIED CARD OF 'laws.FnDropName'. -/
def fnDropNameCard : Claim7 := { stood := { row := fnDropNameRow, standIns := [], harness := (true, "c6b45f16b654500f0d223c6cc259034a185a7f062e700b2551e8444f476ef2e5"), looks := false }, kinds := [], alts := [], laidByText := true, laidKinds := [.data, .pinned], laidTests := true, laidLooks := .later }
def FnDropNameCardSaid : Prop := Claim7.holds Tryz.pinned (.plain (OpenSpec.ofChange fnDropNameSpec)) fnDropNameCard

/-- THE TIED CARD OF 'laws.FnMakeNode'. -/
def fnMakeNodeCard : Claim7 := { stood := { row := fnMakeNodeRow, standIns := [], harness := (true, "c6b45f16b654500f0d223c6cc259034a185a7f062e700b2551e8444f476ef2e5"), looks := false }, kinds := [], alts := [], laidByText := true, laidKinds := [.data, .pinned], laidTests := true, laidLooks := .later }
def FnMakeNodeCardSaid : Prop := Claim7.holds Tryz.pinned (.plain (OpenSpec.ofChange fnMakeNodeSpec)) fnMakeNodeCard

/-- THE TIED CARD OF 'laws.FnLinkName'. -/
def fnLinkNameCard : Claim7 := { stood := { row := fnLinkNameRow, standIns := [], harness := (true, "c6b45f16b654500f0d223c6cc259034a185a7f062e700b2551e8444f476ef2e5"), looks := false }, kinds := [], alts := [], laidByText := true, laidKinds := [.data, .pinned], laidTests := true, laidLooks := .later }
def FnLinkNameCardSaid : Prop := Claim7.holds Tryz.pinned (.plain (OpenSpec.ofChange fnLinkNameSpec)) fnLinkNameCard

/-- THE TIED CARD OF 'laws.FnDropAll'. -/
def fnDropAllCard : Claim7 := { stood := { row := fnDropAllRow, standIns := [], harness := (true, "c6b45f16b654500f0d223c6cc259034a185a7f062e700b2551e8444f476ef2e5"), looks := false }, kinds := [], alts := [], laidByText := true, laidKinds := [.data, .pinned], laidTests := true, laidLooks := .later }
def FnDropAllCardSaid : Prop := Claim7.holds Tryz.pinned (.plain (OpenSpec.ofChange fnDropAllSpec)) fnDropAllCard

/-- THE TIED CARD OF 'laws.FnMakeFolders'. -/
def fnMakeFoldersCard : Claim7 := { stood := { row := fnMakeFoldersRow, standIns := [], harness := (true, "c6b45f16b654500f0d223c6cc259034a185a7f062e700b2551e8444f476ef2e5"), looks := false }, kinds := [], alts := [], laidByText := true, laidKinds := [.data, .pinned], laidTests := true, laidLooks := .later }
def FnMakeFoldersCardSaid : Prop := Claim7.holds Tryz.pinned (.plain (OpenSpec.ofChange fnMakeFoldersSpec)) fnMakeFoldersCard

/-- THE TIED CARD OF 'laws.FnCopyFile'. -/
def fnCopyFileCard : Claim7 := { stood := { row := fnCopyFileRow, standIns := [], harness := (true, "c6b45f16b654500f0d223c6cc259034a185a7f062e700b2551e8444f476ef2e5"), looks := false }, kinds := [], alts := [], laidByText := true, laidKinds := [.data, .pinned], laidTests := true, laidLooks := .later }
def FnCopyFileCardSaid : Prop := Claim7.holds Tryz.pinned (.plain (OpenSpec.ofChange fnCopyFileSpec)) fnCopyFileCard

/-- THE TIED CARD OF 'laws.FnMoveName'. -/
def fnMoveNameCard : Claim7 := { stood := { row := fnMoveNameRow, standIns := [], harness := (true, "c6b45f16b654500f0d223c6cc259034a185a7f062e700b2551e8444f476ef2e5"), looks := false }, kinds := [], alts := [], laidByText := true, laidKinds := [.data, .pinned], laidTests := true, laidLooks := .later }
def FnMoveNameCardSaid : Prop := Claim7.holds Tryz.pinned (.plain (OpenSpec.ofChange fnMoveNameSpec)) fnMoveNameCard

/-- THE SECOND FORM's CARD OF 'laws.FnDropName'. -/
def fnDropNameUptoCard : Claim7 := { stood := { row := fnDropNameUptoRow, standIns := [], harness := (true, "c6b45f16b654500f0d223c6cc259034a185a7f062e700b2551e8444f476ef2e5"), looks := false }, kinds := [], alts := [], laidByText := true, laidKinds := [.data, .pinned], laidTests := true, laidLooks := .later }
def FnDropNameUptoCardSaid : Prop := Claim7.holds Tryz.pinned (.plain (OpenSpec.upto fnDropNameSpec)) fnDropNameUptoCard

/-- THE SECOND FORM's CARD OF 'laws.FnMakeNode'. -/
def fnMakeNodeUptoCard : Claim7 := { stood := { row := fnMakeNodeUptoRow, standIns := [], harness := (true, "c6b45f16b654500f0d223c6cc259034a185a7f062e700b2551e8444f476ef2e5"), looks := false }, kinds := [], alts := [], laidByText := true, laidKinds := [.data, .pinned], laidTests := true, laidLooks := .later }
def FnMakeNodeUptoCardSaid : Prop := Claim7.holds Tryz.pinned (.plain (OpenSpec.upto fnMakeNodeSpec)) fnMakeNodeUptoCard

/-- THE SECOND FORM's CARD OF 'laws.FnLinkName'. -/
def fnLinkNameUptoCard : Claim7 := { stood := { row := fnLinkNameUptoRow, standIns := [], harness := (true, "c6b45f16b654500f0d223c6cc259034a185a7f062e700b2551e8444f476ef2e5"), looks := false }, kinds := [], alts := [], laidByText := true, laidKinds := [.data, .pinned], laidTests := true, laidLooks := .later }
def FnLinkNameUptoCardSaid : Prop := Claim7.holds Tryz.pinned (.plain (OpenSpec.upto fnLinkNameSpec)) fnLinkNameUptoCard

/-- THE SECOND FORM's CARD OF 'laws.FnDropAll'. -/
def fnDropAllUptoCard : Claim7 := { stood := { row := fnDropAllUptoRow, standIns := [], harness := (true, "c6b45f16b654500f0d223c6cc259034a185a7f062e700b2551e8444f476ef2e5"), looks := false }, kinds := [], alts := [], laidByText := true, laidKinds := [.data, .pinned], laidTests := true, laidLooks := .later }
def FnDropAllUptoCardSaid : Prop := Claim7.holds Tryz.pinned (.plain (OpenSpec.upto fnDropAllSpec)) fnDropAllUptoCard

/-- THE SECOND FORM's CARD OF 'laws.FnMakeFolders'. -/
def fnMakeFoldersUptoCard : Claim7 := { stood := { row := fnMakeFoldersUptoRow, standIns := [], harness := (true, "c6b45f16b654500f0d223c6cc259034a185a7f062e700b2551e8444f476ef2e5"), looks := false }, kinds := [], alts := [], laidByText := true, laidKinds := [.data, .pinned], laidTests := true, laidLooks := .later }
def FnMakeFoldersUptoCardSaid : Prop := Claim7.holds Tryz.pinned (.plain (OpenSpec.upto fnMakeFoldersSpec)) fnMakeFoldersUptoCard

/-- THE SECOND FORM's CARD OF 'laws.FnCopyFile'. -/
def fnCopyFileUptoCard : Claim7 := { stood := { row := fnCopyFileUptoRow, standIns := [], harness := (true, "c6b45f16b654500f0d223c6cc259034a185a7f062e700b2551e8444f476ef2e5"), looks := false }, kinds := [], alts := [], laidByText := true, laidKinds := [.data, .pinned], laidTests := true, laidLooks := .later }
def FnCopyFileUptoCardSaid : Prop := Claim7.holds Tryz.pinned (.plain (OpenSpec.upto fnCopyFileSpec)) fnCopyFileUptoCard

/-- THE SECOND FORM's CARD OF 'laws.FnMoveName'. -/
def fnMoveNameUptoCard : Claim7 := { stood := { row := fnMoveNameUptoRow, standIns := [], harness := (true, "c6b45f16b654500f0d223c6cc259034a185a7f062e700b2551e8444f476ef2e5"), looks := false }, kinds := [], alts := [], laidByText := true, laidKinds := [.data, .pinned], laidTests := true, laidLooks := .later }
def FnMoveNameUptoCardSaid : Prop := Claim7.holds Tryz.pinned (.plain (OpenSpec.upto fnMoveNameSpec)) fnMoveNameUptoCard
end Rows
end Go.Proofs.YtkennmpbmbacpaaGreatDoor
