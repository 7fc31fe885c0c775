/-
  DERIVED. GIVEN WITH THE SEED: THE CARDS: each row of YtaadobcfijegcaaDoorRows.lean that lists a variable, with what it lists TIED to the program's text (the seventh form; the later family's looks); each row that meets fmt, with fmt's text TOLD by the authors' own Lean function (tested against real Go, not proved from fmt's source: count such statements apart). THE CARD IS WHAT COUNTS. Prove the row's statement (the work); the ties are given (YtaadobcfijegcaaDoorTie.lean); close each card by the builder's one call (the guide's Derived/Test/ToyasCard.lean, 'card_holds'). Laid BY PROGRAM, IN A SANDBOX (cutbox-door.mjs). By AI agents, Wed Nov 11 2026. No macro, syntax, notation, axiom, sorry.
-/
import Derived.Test.YtaadobcfijegcaaDoorRows
import GoSem.ClaimSeven
namespace Go.Proofs.YtaadobcfijegcaaDoor
namespace Rows

/-- THE TIED CARD OF 'laws.FnExactWayValid'. -/
def fnExactWayValidCard : Claim7 := { stood := { row := fnExactWayValidRow, standIns := [], harness := (true, "51a12faaea21edea4452a12453cedb2452933e7988f2e8ae07fafba4ba79571b"), looks := false }, kinds := [], alts := [], laidByText := true, laidKinds := [.data, .pinned], laidTests := true, laidLooks := .later }
def FnExactWayValidCardSaid : Prop := Claim7.holds Tryd.pinned (.plain (OpenSpec.ofChange fnExactWayValidSpec)) fnExactWayValidCard

/-- THE TIED CARD OF 'laws.FnWayValid'. -/
def fnWayValidCard : Claim7 := { stood := { row := fnWayValidRow, standIns := [], harness := (true, "51a12faaea21edea4452a12453cedb2452933e7988f2e8ae07fafba4ba79571b"), looks := false }, kinds := [], alts := [], laidByText := true, laidKinds := [.data, .pinned], laidTests := true, laidLooks := .later }
def FnWayValidCardSaid : Prop := Claim7.holds Tryd.pinned (.plain (OpenSpec.ofChange fnWayValidSpec)) fnWayValidCard

/-- THE TIED CARD OF 'laws.FnExactInsideRoot'. -/
def fnExactInsideRootCard : Claim7 := { stood := { row := fnExactInsideRootRow, standIns := [], harness := (true, "51a12faaea21edea4452a12453cedb2452933e7988f2e8ae07fafba4ba79571b"), looks := false }, kinds := [], alts := [], laidByText := true, laidKinds := [.data, .pinned], laidTests := true, laidLooks := .later }
def FnExactInsideRootCardSaid : Prop := Claim7.holds Tryd.pinned (.plain (OpenSpec.ofChange fnExactInsideRootSpec)) fnExactInsideRootCard

/-- THE TIED CARD OF 'laws.FnInsideRoot'. -/
def fnInsideRootCard : Claim7 := { stood := { row := fnInsideRootRow, standIns := [], harness := (true, "51a12faaea21edea4452a12453cedb2452933e7988f2e8ae07fafba4ba79571b"), looks := false }, kinds := [], alts := [], laidByText := true, laidKinds := [.data, .pinned], laidTests := true, laidLooks := .later }
def FnInsideRootCardSaid : Prop := Claim7.holds Tryd.pinned (.plain (OpenSpec.ofChange fnInsideRootSpec)) fnInsideRootCard

/-- THE TIED CARD OF 'laws.FnExactBelowRoot'. -/
def fnExactBelowRootCard : Claim7 := { stood := { row := fnExactBelowRootRow, standIns := [], harness := (true, "51a12faaea21edea4452a12453cedb2452933e7988f2e8ae07fafba4ba79571b"), looks := false }, kinds := [], alts := [], laidByText := true, laidKinds := [.data, .pinned], laidTests := true, laidLooks := .later }
def FnExactBelowRootCardSaid : Prop := Claim7.holds Tryd.pinned (.plain (OpenSpec.ofChange fnExactBelowRootSpec)) fnExactBelowRootCard

/-- THE TIED CARD OF 'laws.FnBelowRoot'. -/
def fnBelowRootCard : Claim7 := { stood := { row := fnBelowRootRow, standIns := [], harness := (true, "51a12faaea21edea4452a12453cedb2452933e7988f2e8ae07fafba4ba79571b"), looks := false }, kinds := [], alts := [], laidByText := true, laidKinds := [.data, .pinned], laidTests := true, laidLooks := .later }
def FnBelowRootCardSaid : Prop := Claim7.holds Tryd.pinned (.plain (OpenSpec.ofChange fnBelowRootSpec)) fnBelowRootCard

/-- THE TIED CARD OF 'laws.FnExactFollowWay'. -/
def fnExactFollowWayCard : Claim7 := { stood := { row := fnExactFollowWayRow, standIns := [], harness := (true, "51a12faaea21edea4452a12453cedb2452933e7988f2e8ae07fafba4ba79571b"), looks := false }, kinds := [], alts := [], laidByText := true, laidKinds := [.data, .pinned], laidTests := true, laidLooks := .later }
def FnExactFollowWayCardSaid : Prop := Claim7.holds Tryd.pinned (.plain (OpenSpec.ofChange fnExactFollowWaySpec)) fnExactFollowWayCard

/-- THE TIED CARD OF 'laws.FnFollowWay'. -/
def fnFollowWayCard : Claim7 := { stood := { row := fnFollowWayRow, standIns := [], harness := (true, "51a12faaea21edea4452a12453cedb2452933e7988f2e8ae07fafba4ba79571b"), looks := false }, kinds := [], alts := [], laidByText := true, laidKinds := [.data, .pinned], laidTests := true, laidLooks := .later }
def FnFollowWayCardSaid : Prop := Claim7.holds Tryd.pinned (.plain (OpenSpec.ofChange fnFollowWaySpec)) fnFollowWayCard

/-- THE TIED CARD OF 'laws.FnAboveOf'. -/
def fnAboveOfCard : Claim7 := { stood := { row := fnAboveOfRow, standIns := [], harness := (true, "51a12faaea21edea4452a12453cedb2452933e7988f2e8ae07fafba4ba79571b"), looks := false }, kinds := [], alts := [], laidByText := true, laidKinds := [.data, .pinned], laidTests := true, laidLooks := .later }
def FnAboveOfCardSaid : Prop := Claim7.holds Tryd.pinned (.plain (OpenSpec.ofChange fnAboveOfSpec)) fnAboveOfCard

/-- THE TIED CARD OF 'laws.FnIsBelow'. -/
def fnIsBelowCard : Claim7 := { stood := { row := fnIsBelowRow, standIns := [], harness := (true, "51a12faaea21edea4452a12453cedb2452933e7988f2e8ae07fafba4ba79571b"), looks := false }, kinds := [], alts := [], laidByText := true, laidKinds := [.data, .pinned], laidTests := true, laidLooks := .later }
def FnIsBelowCardSaid : Prop := Claim7.holds Tryd.pinned (.plain (OpenSpec.ofChange fnIsBelowSpec)) fnIsBelowCard

/-- THE TIED CARD OF 'laws.FnThroughMounts'. -/
def fnThroughMountsCard : Claim7 := { stood := { row := fnThroughMountsRow, standIns := [], harness := (true, "51a12faaea21edea4452a12453cedb2452933e7988f2e8ae07fafba4ba79571b"), looks := false }, kinds := [], alts := [], laidByText := true, laidKinds := [.data, .pinned], laidTests := true, laidLooks := .later }
def FnThroughMountsCardSaid : Prop := Claim7.holds Tryd.pinned (.plain (OpenSpec.ofChange fnThroughMountsSpec)) fnThroughMountsCard

/-- THE SECOND FORM's CARD OF 'laws.FnExactWayValid'. -/
def fnExactWayValidUptoCard : Claim7 := { stood := { row := fnExactWayValidUptoRow, standIns := [], harness := (true, "51a12faaea21edea4452a12453cedb2452933e7988f2e8ae07fafba4ba79571b"), looks := false }, kinds := [], alts := [], laidByText := true, laidKinds := [.data, .pinned], laidTests := true, laidLooks := .later }
def FnExactWayValidUptoCardSaid : Prop := Claim7.holds Tryd.pinned (.plain (OpenSpec.upto fnExactWayValidSpec)) fnExactWayValidUptoCard

/-- THE SECOND FORM's CARD OF 'laws.FnWayValid'. -/
def fnWayValidUptoCard : Claim7 := { stood := { row := fnWayValidUptoRow, standIns := [], harness := (true, "51a12faaea21edea4452a12453cedb2452933e7988f2e8ae07fafba4ba79571b"), looks := false }, kinds := [], alts := [], laidByText := true, laidKinds := [.data, .pinned], laidTests := true, laidLooks := .later }
def FnWayValidUptoCardSaid : Prop := Claim7.holds Tryd.pinned (.plain (OpenSpec.upto fnWayValidSpec)) fnWayValidUptoCard

/-- THE SECOND FORM's CARD OF 'laws.FnExactInsideRoot'. -/
def fnExactInsideRootUptoCard : Claim7 := { stood := { row := fnExactInsideRootUptoRow, standIns := [], harness := (true, "51a12faaea21edea4452a12453cedb2452933e7988f2e8ae07fafba4ba79571b"), looks := false }, kinds := [], alts := [], laidByText := true, laidKinds := [.data, .pinned], laidTests := true, laidLooks := .later }
def FnExactInsideRootUptoCardSaid : Prop := Claim7.holds Tryd.pinned (.plain (OpenSpec.upto fnExactInsideRootSpec)) fnExactInsideRootUptoCard

/-- THE SECOND FORM's CARD OF 'laws.FnInsideRoot'. -/
def fnInsideRootUptoCard : Claim7 := { stood := { row := fnInsideRootUptoRow, standIns := [], harness := (true, "51a12faaea21edea4452a12453cedb2452933e7988f2e8ae07fafba4ba79571b"), looks := false }, kinds := [], alts := [], laidByText := true, laidKinds := [.data, .pinned], laidTests := true, laidLooks := .later }
def FnInsideRootUptoCardSaid : Prop := Claim7.holds Tryd.pinned (.plain (OpenSpec.upto fnInsideRootSpec)) fnInsideRootUptoCard

/-- THE SECOND FORM's CARD OF 'laws.FnExactBelowRoot'. -/
def fnExactBelowRootUptoCard : Claim7 := { stood := { row := fnExactBelowRootUptoRow, standIns := [], harness := (true, "51a12faaea21edea4452a12453cedb2452933e7988f2e8ae07fafba4ba79571b"), looks := false }, kinds := [], alts := [], laidByText := true, laidKinds := [.data, .pinned], laidTests := true, laidLooks := .later }
def FnExactBelowRootUptoCardSaid : Prop := Claim7.holds Tryd.pinned (.plain (OpenSpec.upto fnExactBelowRootSpec)) fnExactBelowRootUptoCard

/-- THE SECOND FORM's CARD OF 'laws.FnBelowRoot'. -/
def fnBelowRootUptoCard : Claim7 := { stood := { row := fnBelowRootUptoRow, standIns := [], harness := (true, "51a12faaea21edea4452a12453cedb2452933e7988f2e8ae07fafba4ba79571b"), looks := false }, kinds := [], alts := [], laidByText := true, laidKinds := [.data, .pinned], laidTests := true, laidLooks := .later }
def FnBelowRootUptoCardSaid : Prop := Claim7.holds Tryd.pinned (.plain (OpenSpec.upto fnBelowRootSpec)) fnBelowRootUptoCard

/-- THE SECOND FORM's CARD OF 'laws.FnExactFollowWay'. -/
def fnExactFollowWayUptoCard : Claim7 := { stood := { row := fnExactFollowWayUptoRow, standIns := [], harness := (true, "51a12faaea21edea4452a12453cedb2452933e7988f2e8ae07fafba4ba79571b"), looks := false }, kinds := [], alts := [], laidByText := true, laidKinds := [.data, .pinned], laidTests := true, laidLooks := .later }
def FnExactFollowWayUptoCardSaid : Prop := Claim7.holds Tryd.pinned (.plain (OpenSpec.upto fnExactFollowWaySpec)) fnExactFollowWayUptoCard

/-- THE SECOND FORM's CARD OF 'laws.FnFollowWay'. -/
def fnFollowWayUptoCard : Claim7 := { stood := { row := fnFollowWayUptoRow, standIns := [], harness := (true, "51a12faaea21edea4452a12453cedb2452933e7988f2e8ae07fafba4ba79571b"), looks := false }, kinds := [], alts := [], laidByText := true, laidKinds := [.data, .pinned], laidTests := true, laidLooks := .later }
def FnFollowWayUptoCardSaid : Prop := Claim7.holds Tryd.pinned (.plain (OpenSpec.upto fnFollowWaySpec)) fnFollowWayUptoCard

/-- THE SECOND FORM's CARD OF 'laws.FnAboveOf'. -/
def fnAboveOfUptoCard : Claim7 := { stood := { row := fnAboveOfUptoRow, standIns := [], harness := (true, "51a12faaea21edea4452a12453cedb2452933e7988f2e8ae07fafba4ba79571b"), looks := false }, kinds := [], alts := [], laidByText := true, laidKinds := [.data, .pinned], laidTests := true, laidLooks := .later }
def FnAboveOfUptoCardSaid : Prop := Claim7.holds Tryd.pinned (.plain (OpenSpec.upto fnAboveOfSpec)) fnAboveOfUptoCard

/-- THE SECOND FORM's CARD OF 'laws.FnIsBelow'. -/
def fnIsBelowUptoCard : Claim7 := { stood := { row := fnIsBelowUptoRow, standIns := [], harness := (true, "51a12faaea21edea4452a12453cedb2452933e7988f2e8ae07fafba4ba79571b"), looks := false }, kinds := [], alts := [], laidByText := true, laidKinds := [.data, .pinned], laidTests := true, laidLooks := .later }
def FnIsBelowUptoCardSaid : Prop := Claim7.holds Tryd.pinned (.plain (OpenSpec.upto fnIsBelowSpec)) fnIsBelowUptoCard

/-- THE SECOND FORM's CARD OF 'laws.FnThroughMounts'. -/
def fnThroughMountsUptoCard : Claim7 := { stood := { row := fnThroughMountsUptoRow, standIns := [], harness := (true, "51a12faaea21edea4452a12453cedb2452933e7988f2e8ae07fafba4ba79571b"), looks := false }, kinds := [], alts := [], laidByText := true, laidKinds := [.data, .pinned], laidTests := true, laidLooks := .later }
def FnThroughMountsUptoCardSaid : Prop := Claim7.holds Tryd.pinned (.plain (OpenSpec.upto fnThroughMountsSpec)) fnThroughMountsUptoCard
end Rows
end Go.Proofs.YtaadobcfijegcaaDoor
