/-
  DERIVED. GIVEN WITH THE SEED: THE CARDS: each row of YthfneaaenlgegaaDoorRows.lean that lists a variable, with what it lists TIED to the program's text (the seventh form; the later family's looks); each row that meets fmt, with fmt's text TOLD by the authors' own Lean function (tested against real Go, not proved from fmt's source: count such statements apart). THE CARD IS WHAT COUNTS. Prove the row's statement (the work); the ties are given (YthfneaaenlgegaaDoorTie.lean); close each card by the builder's one call (the guide's Derived/Test/ToyasCard.lean, 'card_holds'). Laid BY PROGRAM, IN A SANDBOX (cutbox-door.mjs). By AI agents, Wed Nov 11 2026. No macro, syntax, notation, axiom, sorry.
-/
import Derived.Test.YthfneaaenlgegaaDoorRows
import GoSem.ClaimSeven
namespace Go.Proofs.YthfneaaenlgegaaDoor
namespace Rows

/-- THE TIED CARD OF 'laws.FnPathsOf'. -/
def fnPathsOfCard : Claim7 := { stood := { row := fnPathsOfRow, standIns := [], harness := (true, "3770166d4805fd4c083913e438f48df88538e148f6f794589ab4e9a7290fe2b0"), looks := false }, kinds := [], alts := [], laidByText := true, laidKinds := [.data, .pinned], laidTests := true, laidLooks := .later }
def FnPathsOfCardSaid : Prop := Claim7.holds Tryd.pinned (.plain (OpenSpec.ofChange fnPathsOfSpec)) fnPathsOfCard

/-- THE TIED CARD OF 'laws.FnFindNode'. -/
def fnFindNodeCard : Claim7 := { stood := { row := fnFindNodeRow, standIns := [], harness := (true, "3770166d4805fd4c083913e438f48df88538e148f6f794589ab4e9a7290fe2b0"), looks := false }, kinds := [], alts := [], laidByText := true, laidKinds := [.data, .pinned], laidTests := true, laidLooks := .later }
def FnFindNodeCardSaid : Prop := Claim7.holds Tryd.pinned (.plain (OpenSpec.ofChange fnFindNodeSpec)) fnFindNodeCard

/-- THE TIED CARD OF 'laws.FnSameFile'. -/
def fnSameFileCard : Claim7 := { stood := { row := fnSameFileRow, standIns := [], harness := (true, "3770166d4805fd4c083913e438f48df88538e148f6f794589ab4e9a7290fe2b0"), looks := false }, kinds := [], alts := [], laidByText := true, laidKinds := [.data, .pinned], laidTests := true, laidLooks := .later }
def FnSameFileCardSaid : Prop := Claim7.holds Tryd.pinned (.plain (OpenSpec.ofChange fnSameFileSpec)) fnSameFileCard

/-- THE TIED CARD OF 'laws.FnMayAt'. -/
def fnMayAtCard : Claim7 := { stood := { row := fnMayAtRow, standIns := [], harness := (true, "3770166d4805fd4c083913e438f48df88538e148f6f794589ab4e9a7290fe2b0"), looks := false }, kinds := [], alts := [], laidByText := true, laidKinds := [.data, .pinned], laidTests := true, laidLooks := .later }
def FnMayAtCardSaid : Prop := Claim7.holds Tryd.pinned (.plain (OpenSpec.ofChange fnMayAtSpec)) fnMayAtCard

/-- THE TIED CARD OF 'laws.FnPlaceFor'. -/
def fnPlaceForCard : Claim7 := { stood := { row := fnPlaceForRow, standIns := [], harness := (true, "3770166d4805fd4c083913e438f48df88538e148f6f794589ab4e9a7290fe2b0"), looks := false }, kinds := [], alts := [], laidByText := true, laidKinds := [.data, .pinned], laidTests := true, laidLooks := .later }
def FnPlaceForCardSaid : Prop := Claim7.holds Tryd.pinned (.plain (OpenSpec.ofChange fnPlaceForSpec)) fnPlaceForCard

/-- THE TIED CARD OF 'laws.FnReadFile'. -/
def fnReadFileCard : Claim7 := { stood := { row := fnReadFileRow, standIns := [], harness := (true, "3770166d4805fd4c083913e438f48df88538e148f6f794589ab4e9a7290fe2b0"), looks := false }, kinds := [], alts := [], laidByText := true, laidKinds := [.data, .pinned], laidTests := true, laidLooks := .later }
def FnReadFileCardSaid : Prop := Claim7.holds Tryd.pinned (.plain (OpenSpec.ofChange fnReadFileSpec)) fnReadFileCard

/-- THE TIED CARD OF 'laws.FnOpenFile'. -/
def fnOpenFileCard : Claim7 := { stood := { row := fnOpenFileRow, standIns := [], harness := (true, "3770166d4805fd4c083913e438f48df88538e148f6f794589ab4e9a7290fe2b0"), looks := false }, kinds := [], alts := [], laidByText := true, laidKinds := [.data, .pinned], laidTests := true, laidLooks := .later }
def FnOpenFileCardSaid : Prop := Claim7.holds Tryd.pinned (.plain (OpenSpec.ofChange fnOpenFileSpec)) fnOpenFileCard

/-- THE TIED CARD OF 'laws.FnMayDrop'. -/
def fnMayDropCard : Claim7 := { stood := { row := fnMayDropRow, standIns := [], harness := (true, "3770166d4805fd4c083913e438f48df88538e148f6f794589ab4e9a7290fe2b0"), looks := false }, kinds := [], alts := [], laidByText := true, laidKinds := [.data, .pinned], laidTests := true, laidLooks := .later }
def FnMayDropCardSaid : Prop := Claim7.holds Tryd.pinned (.plain (OpenSpec.ofChange fnMayDropSpec)) fnMayDropCard

/-- THE SECOND FORM's CARD OF 'laws.FnPathsOf'. -/
def fnPathsOfUptoCard : Claim7 := { stood := { row := fnPathsOfUptoRow, standIns := [], harness := (true, "3770166d4805fd4c083913e438f48df88538e148f6f794589ab4e9a7290fe2b0"), looks := false }, kinds := [], alts := [], laidByText := true, laidKinds := [.data, .pinned], laidTests := true, laidLooks := .later }
def FnPathsOfUptoCardSaid : Prop := Claim7.holds Tryd.pinned (.plain (OpenSpec.upto fnPathsOfSpec)) fnPathsOfUptoCard

/-- THE SECOND FORM's CARD OF 'laws.FnFindNode'. -/
def fnFindNodeUptoCard : Claim7 := { stood := { row := fnFindNodeUptoRow, standIns := [], harness := (true, "3770166d4805fd4c083913e438f48df88538e148f6f794589ab4e9a7290fe2b0"), looks := false }, kinds := [], alts := [], laidByText := true, laidKinds := [.data, .pinned], laidTests := true, laidLooks := .later }
def FnFindNodeUptoCardSaid : Prop := Claim7.holds Tryd.pinned (.plain (OpenSpec.upto fnFindNodeSpec)) fnFindNodeUptoCard

/-- THE SECOND FORM's CARD OF 'laws.FnSameFile'. -/
def fnSameFileUptoCard : Claim7 := { stood := { row := fnSameFileUptoRow, standIns := [], harness := (true, "3770166d4805fd4c083913e438f48df88538e148f6f794589ab4e9a7290fe2b0"), looks := false }, kinds := [], alts := [], laidByText := true, laidKinds := [.data, .pinned], laidTests := true, laidLooks := .later }
def FnSameFileUptoCardSaid : Prop := Claim7.holds Tryd.pinned (.plain (OpenSpec.upto fnSameFileSpec)) fnSameFileUptoCard

/-- THE SECOND FORM's CARD OF 'laws.FnMayAt'. -/
def fnMayAtUptoCard : Claim7 := { stood := { row := fnMayAtUptoRow, standIns := [], harness := (true, "3770166d4805fd4c083913e438f48df88538e148f6f794589ab4e9a7290fe2b0"), looks := false }, kinds := [], alts := [], laidByText := true, laidKinds := [.data, .pinned], laidTests := true, laidLooks := .later }
def FnMayAtUptoCardSaid : Prop := Claim7.holds Tryd.pinned (.plain (OpenSpec.upto fnMayAtSpec)) fnMayAtUptoCard

/-- THE SECOND FORM's CARD OF 'laws.FnPlaceFor'. -/
def fnPlaceForUptoCard : Claim7 := { stood := { row := fnPlaceForUptoRow, standIns := [], harness := (true, "3770166d4805fd4c083913e438f48df88538e148f6f794589ab4e9a7290fe2b0"), looks := false }, kinds := [], alts := [], laidByText := true, laidKinds := [.data, .pinned], laidTests := true, laidLooks := .later }
def FnPlaceForUptoCardSaid : Prop := Claim7.holds Tryd.pinned (.plain (OpenSpec.upto fnPlaceForSpec)) fnPlaceForUptoCard

/-- THE SECOND FORM's CARD OF 'laws.FnReadFile'. -/
def fnReadFileUptoCard : Claim7 := { stood := { row := fnReadFileUptoRow, standIns := [], harness := (true, "3770166d4805fd4c083913e438f48df88538e148f6f794589ab4e9a7290fe2b0"), looks := false }, kinds := [], alts := [], laidByText := true, laidKinds := [.data, .pinned], laidTests := true, laidLooks := .later }
def FnReadFileUptoCardSaid : Prop := Claim7.holds Tryd.pinned (.plain (OpenSpec.upto fnReadFileSpec)) fnReadFileUptoCard

/-- THE SECOND FORM's CARD OF 'laws.FnOpenFile'. -/
def fnOpenFileUptoCard : Claim7 := { stood := { row := fnOpenFileUptoRow, standIns := [], harness := (true, "3770166d4805fd4c083913e438f48df88538e148f6f794589ab4e9a7290fe2b0"), looks := false }, kinds := [], alts := [], laidByText := true, laidKinds := [.data, .pinned], laidTests := true, laidLooks := .later }
def FnOpenFileUptoCardSaid : Prop := Claim7.holds Tryd.pinned (.plain (OpenSpec.upto fnOpenFileSpec)) fnOpenFileUptoCard

/-- THE SECOND FORM's CARD OF 'laws.FnMayDrop'. -/
def fnMayDropUptoCard : Claim7 := { stood := { row := fnMayDropUptoRow, standIns := [], harness := (true, "3770166d4805fd4c083913e438f48df88538e148f6f794589ab4e9a7290fe2b0"), looks := false }, kinds := [], alts := [], laidByText := true, laidKinds := [.data, .pinned], laidTests := true, laidLooks := .later }
def FnMayDropUptoCardSaid : Prop := Claim7.holds Tryd.pinned (.plain (OpenSpec.upto fnMayDropSpec)) fnMayDropUptoCard
end Rows
end Go.Proofs.YthfneaaenlgegaaDoor
