/-
  NARROWER THAN 'FOR EVERY INPUT', by the rows' own cells (each row's printed sentence says how): FnExactWayValid: laid · FnWayValid: laid · FnExactInsideRoot: laid · FnInsideRoot: laid · FnExactBelowRoot: laid · FnBelowRoot: laid · FnExactFollowWay: laid · FnFollowWay: laid · FnAboveOf: laid · FnIsBelow: laid · FnThroughMounts: laid.
  DERIVED. THE GIVEN ROWS OF THIS SEAT. 11 by the template 'for every input the law returns true; each argument reads behind the call as it read before'; 0 by the template 'total and deterministic' (their statements: YtaadobcfijegcaaDoorTotals.lean).
  GIVEN WITH THE SEED: the statements are not yours to turn. If you find one false, say at which input.
  Laid BY PROGRAM, IN A SANDBOX (cutbox-rows.mjs): the forced cells as the released guide's own fill.sh prints them over the translation 140df9ed4a1d1898… (all of the seat's roots in one cut). By AI agents, Wed Nov 11 2026. No macro, syntax, notation, axiom, sorry.
-/
import Derived.Test.YtaadobcfijegcaaDoorChecked
import GoSem.PinnedTables
import GoSem.Claim
import GoSem.ClaimJoined
import GoSem.ClaimMapViews
import Derived.JoinedTies
import Derived.KernelRfl
namespace Go.Proofs.YtaadobcfijegcaaDoor
/- THE CELL 'sum', in the pinned program and in every row, IS THE sha256 OF THE DUMP (.gsa) THAT YtaadobcfijegcaaDoorProg.lean LOADS. Nothing in Lean hashes anything: it is a label: what it is worth is what the hold of that sum in a sandbox is worth. -/
noncomputable def Tryd.pinned : Pinned := { name := "ytaadobcfijegcaadoor", sum := "140df9ed4a1d189849b444a4643eba44ba41af8634022ce3cfd6085b2feb4017", checked := Tryd.checked }
namespace Rows
def none {H : Type} : Left H := { results := [], args := [] }

/- WHAT THE LISTED PACKAGE-LEVEL VARIABLES READ AS WHEN THE CALL BEGINS. Each datum BY PROGRAM (the guide's laid-datum.mjs) off the statement by which the dump's own 'gosem.cut.vars' lays the variable. In a bare row this is a premise. The card (YtaadobcfijegcaaDoorCards.lean) ties it to the program's text. -/
def laid_unicode_utf8_acceptRanges {H : Type} : DataW H := .agg [.agg [.lit (.int .u8 128), .lit (.int .u8 191)], .agg [.lit (.int .u8 160), .lit (.int .u8 191)], .agg [.lit (.int .u8 128), .lit (.int .u8 159)], .agg [.lit (.int .u8 144), .lit (.int .u8 191)], .agg [.lit (.int .u8 128), .lit (.int .u8 143)], .agg [.lit (.int .u8 0), .lit (.int .u8 0)], .agg [.lit (.int .u8 0), .lit (.int .u8 0)], .agg [.lit (.int .u8 0), .lit (.int .u8 0)], .agg [.lit (.int .u8 0), .lit (.int .u8 0)], .agg [.lit (.int .u8 0), .lit (.int .u8 0)], .agg [.lit (.int .u8 0), .lit (.int .u8 0)], .agg [.lit (.int .u8 0), .lit (.int .u8 0)], .agg [.lit (.int .u8 0), .lit (.int .u8 0)], .agg [.lit (.int .u8 0), .lit (.int .u8 0)], .agg [.lit (.int .u8 0), .lit (.int .u8 0)], .agg [.lit (.int .u8 0), .lit (.int .u8 0)]]
/-- One of Go's own tables, pinned by name: the form's constant. -/
def laid_unicode_utf8_first : DataW Unit := Go.Pinned.utf8First

/-- 'laws.FnExactWayValid': WHATEVER THE INPUT: true; the input reads as it did. -/
def fnExactWayValidSpec : ChangeSpec := { name := "fnExactWayValid", fn := fun _ => fun
  | [d] => { results := [.lit (.bool true)], args := [d] }
  | _ => none }
def fnExactWayValidRow : OpenClaim := { program := "ytaadobcfijegcaadoor", sum := "140df9ed4a1d189849b444a4643eba44ba41af8634022ce3cfd6085b2feb4017", func := "loop.example/userspaces/laws.FnExactWayValid", spec := "fnExactWayValid", inPlace := ["internal/bytealg.CountString", "internal/bytealg.IndexByteString", "internal/bytealg.IndexString"], unfollowed := true, recurses := true, named := ["unicode/utf8.first", "unicode/utf8.acceptRanges", "internal/bytealg.MaxLen"], apart := false, laid := [("unicode/utf8.acceptRanges", laid_unicode_utf8_acceptRanges), ("unicode/utf8.first", laid_unicode_utf8_first)] }
def FnExactWayValidSaid : Prop := fnExactWayValidRow.holds Tryd.pinned (OpenSpec.ofChange fnExactWayValidSpec)

/-- ITS FALSE NEIGHBOUR: 'it returns false'. Refute it at one input. -/
def fnExactWayValidWrong : ChangeSpec := { name := "fnExactWayValid", fn := fun _ => fun
  | [d] => { results := [.lit (.bool false)], args := [d] }
  | _ => none }
def FnExactWayValidWrongFalsely : Prop := fnExactWayValidRow.holds Tryd.pinned (OpenSpec.ofChange fnExactWayValidWrong)

/-- 'laws.FnWayValid': WHATEVER THE INPUT: true; the input reads as it did. -/
def fnWayValidSpec : ChangeSpec := { name := "fnWayValid", fn := fun _ => fun
  | [d] => { results := [.lit (.bool true)], args := [d] }
  | _ => none }
def fnWayValidRow : OpenClaim := { program := "ytaadobcfijegcaadoor", sum := "140df9ed4a1d189849b444a4643eba44ba41af8634022ce3cfd6085b2feb4017", func := "loop.example/userspaces/laws.FnWayValid", spec := "fnWayValid", inPlace := ["internal/bytealg.CountString", "internal/bytealg.IndexByteString", "internal/bytealg.IndexString"], unfollowed := true, recurses := true, named := ["unicode/utf8.first", "unicode/utf8.acceptRanges", "internal/bytealg.MaxLen"], apart := false, laid := [("unicode/utf8.acceptRanges", laid_unicode_utf8_acceptRanges), ("unicode/utf8.first", laid_unicode_utf8_first)] }
def FnWayValidSaid : Prop := fnWayValidRow.holds Tryd.pinned (OpenSpec.ofChange fnWayValidSpec)

/-- ITS FALSE NEIGHBOUR: 'it returns false'. Refute it at one input. -/
def fnWayValidWrong : ChangeSpec := { name := "fnWayValid", fn := fun _ => fun
  | [d] => { results := [.lit (.bool false)], args := [d] }
  | _ => none }
def FnWayValidWrongFalsely : Prop := fnWayValidRow.holds Tryd.pinned (OpenSpec.ofChange fnWayValidWrong)

/-- 'laws.FnExactInsideRoot': WHATEVER THE INPUT: true; the input reads as it did. -/
def fnExactInsideRootSpec : ChangeSpec := { name := "fnExactInsideRoot", fn := fun _ => fun
  | [d1, d2] => { results := [.lit (.bool true)], args := [d1, d2] }
  | _ => none }
def fnExactInsideRootRow : OpenClaim := { program := "ytaadobcfijegcaadoor", sum := "140df9ed4a1d189849b444a4643eba44ba41af8634022ce3cfd6085b2feb4017", func := "loop.example/userspaces/laws.FnExactInsideRoot", spec := "fnExactInsideRoot", inPlace := ["internal/bytealg.CountString", "internal/bytealg.IndexByteString", "internal/bytealg.IndexString", "internal/abi.NoEscape", "internal/bytealg.MakeNoZero"], unfollowed := true, recurses := true, named := ["unicode/utf8.first", "unicode/utf8.acceptRanges", "internal/bytealg.MaxLen"], apart := false, laid := [("unicode/utf8.acceptRanges", laid_unicode_utf8_acceptRanges), ("unicode/utf8.first", laid_unicode_utf8_first)] }
def FnExactInsideRootSaid : Prop := fnExactInsideRootRow.holds Tryd.pinned (OpenSpec.ofChange fnExactInsideRootSpec)

/-- ITS FALSE NEIGHBOUR: 'it returns false'. Refute it at one input. -/
def fnExactInsideRootWrong : ChangeSpec := { name := "fnExactInsideRoot", fn := fun _ => fun
  | [d1, d2] => { results := [.lit (.bool false)], args := [d1, d2] }
  | _ => none }
def FnExactInsideRootWrongFalsely : Prop := fnExactInsideRootRow.holds Tryd.pinned (OpenSpec.ofChange fnExactInsideRootWrong)

/-- 'laws.FnInsideRoot': WHATEVER THE INPUT: true; the input reads as it did. -/
def fnInsideRootSpec : ChangeSpec := { name := "fnInsideRoot", fn := fun _ => fun
  | [d] => { results := [.lit (.bool true)], args := [d] }
  | _ => none }
def fnInsideRootRow : OpenClaim := { program := "ytaadobcfijegcaadoor", sum := "140df9ed4a1d189849b444a4643eba44ba41af8634022ce3cfd6085b2feb4017", func := "loop.example/userspaces/laws.FnInsideRoot", spec := "fnInsideRoot", inPlace := ["internal/bytealg.CountString", "internal/bytealg.IndexByteString", "internal/bytealg.IndexString", "internal/abi.NoEscape", "internal/bytealg.MakeNoZero"], unfollowed := true, recurses := true, named := ["unicode/utf8.first", "unicode/utf8.acceptRanges", "internal/bytealg.MaxLen"], apart := false, laid := [("unicode/utf8.acceptRanges", laid_unicode_utf8_acceptRanges), ("unicode/utf8.first", laid_unicode_utf8_first)] }
def FnInsideRootSaid : Prop := fnInsideRootRow.holds Tryd.pinned (OpenSpec.ofChange fnInsideRootSpec)

/-- ITS FALSE NEIGHBOUR: 'it returns false'. Refute it at one input. -/
def fnInsideRootWrong : ChangeSpec := { name := "fnInsideRoot", fn := fun _ => fun
  | [d] => { results := [.lit (.bool false)], args := [d] }
  | _ => none }
def FnInsideRootWrongFalsely : Prop := fnInsideRootRow.holds Tryd.pinned (OpenSpec.ofChange fnInsideRootWrong)

/-- 'laws.FnExactBelowRoot': WHATEVER THE INPUT: true; the input reads as it did. -/
def fnExactBelowRootSpec : ChangeSpec := { name := "fnExactBelowRoot", fn := fun _ => fun
  | [d1, d2] => { results := [.lit (.bool true)], args := [d1, d2] }
  | _ => none }
def fnExactBelowRootRow : OpenClaim := { program := "ytaadobcfijegcaadoor", sum := "140df9ed4a1d189849b444a4643eba44ba41af8634022ce3cfd6085b2feb4017", func := "loop.example/userspaces/laws.FnExactBelowRoot", spec := "fnExactBelowRoot", inPlace := ["internal/bytealg.CountString", "internal/bytealg.IndexByteString", "internal/bytealg.IndexString", "internal/abi.NoEscape", "internal/bytealg.MakeNoZero"], unfollowed := true, recurses := true, named := ["unicode/utf8.first", "unicode/utf8.acceptRanges", "internal/bytealg.MaxLen"], apart := false, laid := [("unicode/utf8.acceptRanges", laid_unicode_utf8_acceptRanges), ("unicode/utf8.first", laid_unicode_utf8_first)] }
def FnExactBelowRootSaid : Prop := fnExactBelowRootRow.holds Tryd.pinned (OpenSpec.ofChange fnExactBelowRootSpec)

/-- ITS FALSE NEIGHBOUR: 'it returns false'. Refute it at one input. -/
def fnExactBelowRootWrong : ChangeSpec := { name := "fnExactBelowRoot", fn := fun _ => fun
  | [d1, d2] => { results := [.lit (.bool false)], args := [d1, d2] }
  | _ => none }
def FnExactBelowRootWrongFalsely : Prop := fnExactBelowRootRow.holds Tryd.pinned (OpenSpec.ofChange fnExactBelowRootWrong)

/-- 'laws.FnBelowRoot': WHATEVER THE INPUT: true; the input reads as it did. -/
def fnBelowRootSpec : ChangeSpec := { name := "fnBelowRoot", fn := fun _ => fun
  | [d] => { results := [.lit (.bool true)], args := [d] }
  | _ => none }
def fnBelowRootRow : OpenClaim := { program := "ytaadobcfijegcaadoor", sum := "140df9ed4a1d189849b444a4643eba44ba41af8634022ce3cfd6085b2feb4017", func := "loop.example/userspaces/laws.FnBelowRoot", spec := "fnBelowRoot", inPlace := ["internal/bytealg.CountString", "internal/bytealg.IndexByteString", "internal/bytealg.IndexString", "internal/abi.NoEscape", "internal/bytealg.MakeNoZero"], unfollowed := true, recurses := true, named := ["unicode/utf8.first", "unicode/utf8.acceptRanges", "internal/bytealg.MaxLen"], apart := false, laid := [("unicode/utf8.acceptRanges", laid_unicode_utf8_acceptRanges), ("unicode/utf8.first", laid_unicode_utf8_first)] }
def FnBelowRootSaid : Prop := fnBelowRootRow.holds Tryd.pinned (OpenSpec.ofChange fnBelowRootSpec)

/-- ITS FALSE NEIGHBOUR: 'it returns false'. Refute it at one input. -/
def fnBelowRootWrong : ChangeSpec := { name := "fnBelowRoot", fn := fun _ => fun
  | [d] => { results := [.lit (.bool false)], args := [d] }
  | _ => none }
def FnBelowRootWrongFalsely : Prop := fnBelowRootRow.holds Tryd.pinned (OpenSpec.ofChange fnBelowRootWrong)

/-- 'laws.FnExactFollowWay': WHATEVER THE INPUT: true; the input reads as it did. -/
def fnExactFollowWaySpec : ChangeSpec := { name := "fnExactFollowWay", fn := fun _ => fun
  | [d1, d2] => { results := [.lit (.bool true)], args := [d1, d2] }
  | _ => none }
def fnExactFollowWayRow : OpenClaim := { program := "ytaadobcfijegcaadoor", sum := "140df9ed4a1d189849b444a4643eba44ba41af8634022ce3cfd6085b2feb4017", func := "loop.example/userspaces/laws.FnExactFollowWay", spec := "fnExactFollowWay", inPlace := ["internal/bytealg.CountString", "internal/bytealg.IndexByteString", "internal/bytealg.IndexString", "internal/abi.NoEscape", "internal/bytealg.MakeNoZero"], unfollowed := true, recurses := true, named := ["unicode/utf8.first", "unicode/utf8.acceptRanges", "internal/bytealg.MaxLen"], apart := false, laid := [("unicode/utf8.acceptRanges", laid_unicode_utf8_acceptRanges), ("unicode/utf8.first", laid_unicode_utf8_first)] }
def FnExactFollowWaySaid : Prop := fnExactFollowWayRow.holds Tryd.pinned (OpenSpec.ofChange fnExactFollowWaySpec)

/-- ITS FALSE NEIGHBOUR: 'it returns false'. Refute it at one input. -/
def fnExactFollowWayWrong : ChangeSpec := { name := "fnExactFollowWay", fn := fun _ => fun
  | [d1, d2] => { results := [.lit (.bool false)], args := [d1, d2] }
  | _ => none }
def FnExactFollowWayWrongFalsely : Prop := fnExactFollowWayRow.holds Tryd.pinned (OpenSpec.ofChange fnExactFollowWayWrong)

/-- 'laws.FnFollowWay': WHATEVER THE INPUT: true; the input reads as it did. -/
def fnFollowWaySpec : ChangeSpec := { name := "fnFollowWay", fn := fun _ => fun
  | [d] => { results := [.lit (.bool true)], args := [d] }
  | _ => none }
def fnFollowWayRow : OpenClaim := { program := "ytaadobcfijegcaadoor", sum := "140df9ed4a1d189849b444a4643eba44ba41af8634022ce3cfd6085b2feb4017", func := "loop.example/userspaces/laws.FnFollowWay", spec := "fnFollowWay", inPlace := ["internal/bytealg.CountString", "internal/bytealg.IndexByteString", "internal/bytealg.IndexString", "internal/abi.NoEscape", "internal/bytealg.MakeNoZero"], unfollowed := true, recurses := true, named := ["unicode/utf8.first", "unicode/utf8.acceptRanges", "internal/bytealg.MaxLen"], apart := false, laid := [("unicode/utf8.acceptRanges", laid_unicode_utf8_acceptRanges), ("unicode/utf8.first", laid_unicode_utf8_first)] }
def FnFollowWaySaid : Prop := fnFollowWayRow.holds Tryd.pinned (OpenSpec.ofChange fnFollowWaySpec)

/-- ITS FALSE NEIGHBOUR: 'it returns false'. Refute it at one input. -/
def fnFollowWayWrong : ChangeSpec := { name := "fnFollowWay", fn := fun _ => fun
  | [d] => { results := [.lit (.bool false)], args := [d] }
  | _ => none }
def FnFollowWayWrongFalsely : Prop := fnFollowWayRow.holds Tryd.pinned (OpenSpec.ofChange fnFollowWayWrong)

/-- 'laws.FnAboveOf': WHATEVER THE INPUT: true; the input reads as it did. -/
def fnAboveOfSpec : ChangeSpec := { name := "fnAboveOf", fn := fun _ => fun
  | [d] => { results := [.lit (.bool true)], args := [d] }
  | _ => none }
def fnAboveOfRow : OpenClaim := { program := "ytaadobcfijegcaadoor", sum := "140df9ed4a1d189849b444a4643eba44ba41af8634022ce3cfd6085b2feb4017", func := "loop.example/userspaces/laws.FnAboveOf", spec := "fnAboveOf", inPlace := ["internal/bytealg.CountString", "internal/bytealg.IndexByteString", "internal/bytealg.IndexString", "internal/abi.NoEscape", "internal/bytealg.MakeNoZero"], unfollowed := true, recurses := true, named := ["unicode/utf8.first", "unicode/utf8.acceptRanges", "internal/bytealg.MaxLen"], apart := false, laid := [("unicode/utf8.acceptRanges", laid_unicode_utf8_acceptRanges), ("unicode/utf8.first", laid_unicode_utf8_first)] }
def FnAboveOfSaid : Prop := fnAboveOfRow.holds Tryd.pinned (OpenSpec.ofChange fnAboveOfSpec)

/-- ITS FALSE NEIGHBOUR: 'it returns false'. Refute it at one input. -/
def fnAboveOfWrong : ChangeSpec := { name := "fnAboveOf", fn := fun _ => fun
  | [d] => { results := [.lit (.bool false)], args := [d] }
  | _ => none }
def FnAboveOfWrongFalsely : Prop := fnAboveOfRow.holds Tryd.pinned (OpenSpec.ofChange fnAboveOfWrong)

/-- 'laws.FnIsBelow': WHATEVER THE INPUT: true; the input reads as it did. -/
def fnIsBelowSpec : ChangeSpec := { name := "fnIsBelow", fn := fun _ => fun
  | [d] => { results := [.lit (.bool true)], args := [d] }
  | _ => none }
def fnIsBelowRow : OpenClaim := { program := "ytaadobcfijegcaadoor", sum := "140df9ed4a1d189849b444a4643eba44ba41af8634022ce3cfd6085b2feb4017", func := "loop.example/userspaces/laws.FnIsBelow", spec := "fnIsBelow", inPlace := ["internal/bytealg.CountString", "internal/bytealg.IndexByteString", "internal/bytealg.IndexString", "internal/abi.NoEscape", "internal/bytealg.MakeNoZero"], unfollowed := true, recurses := true, named := ["unicode/utf8.first", "unicode/utf8.acceptRanges", "internal/bytealg.MaxLen"], apart := false, laid := [("unicode/utf8.acceptRanges", laid_unicode_utf8_acceptRanges), ("unicode/utf8.first", laid_unicode_utf8_first)] }
def FnIsBelowSaid : Prop := fnIsBelowRow.holds Tryd.pinned (OpenSpec.ofChange fnIsBelowSpec)

/-- ITS FALSE NEIGHBOUR: 'it returns false'. Refute it at one input. -/
def fnIsBelowWrong : ChangeSpec := { name := "fnIsBelow", fn := fun _ => fun
  | [d] => { results := [.lit (.bool false)], args := [d] }
  | _ => none }
def FnIsBelowWrongFalsely : Prop := fnIsBelowRow.holds Tryd.pinned (OpenSpec.ofChange fnIsBelowWrong)

/-- 'laws.FnThroughMounts': WHATEVER THE INPUT: true; the input reads as it did. -/
def fnThroughMountsSpec : ChangeSpec := { name := "fnThroughMounts", fn := fun _ => fun
  | [d] => { results := [.lit (.bool true)], args := [d] }
  | _ => none }
def fnThroughMountsRow : OpenClaim := { program := "ytaadobcfijegcaadoor", sum := "140df9ed4a1d189849b444a4643eba44ba41af8634022ce3cfd6085b2feb4017", func := "loop.example/userspaces/laws.FnThroughMounts", spec := "fnThroughMounts", inPlace := ["internal/bytealg.CountString", "internal/bytealg.IndexByteString", "internal/bytealg.IndexString", "internal/abi.NoEscape", "internal/bytealg.MakeNoZero"], unfollowed := true, recurses := true, named := ["unicode/utf8.first", "unicode/utf8.acceptRanges", "internal/bytealg.MaxLen"], apart := false, laid := [("unicode/utf8.acceptRanges", laid_unicode_utf8_acceptRanges), ("unicode/utf8.first", laid_unicode_utf8_first)] }
def FnThroughMountsSaid : Prop := fnThroughMountsRow.holds Tryd.pinned (OpenSpec.ofChange fnThroughMountsSpec)

/-- ITS FALSE NEIGHBOUR: 'it returns false'. Refute it at one input. -/
def fnThroughMountsWrong : ChangeSpec := { name := "fnThroughMounts", fn := fun _ => fun
  | [d] => { results := [.lit (.bool false)], args := [d] }
  | _ => none }
def FnThroughMountsWrongFalsely : Prop := fnThroughMountsRow.holds Tryd.pinned (OpenSpec.ofChange fnThroughMountsWrong)

/- THE SECOND FORM. 'bulk': how many values and letters a reading holds, each counted each time it is reached (what is shared counts as often as it is met; a slice's spare places count too). A statement '..UptoSaid' is the law's where the arguments, and the package variables that the reading takes, are together of bulk at most 1048576: NARROWER than '..Said'. Prove '..Said' where nothing that the law and all that it calls make is longer than what came in: it says more and counts as full. Else prove '..UptoSaid'. A law counts once. -/
mutual
def uptoBulk {H : Type} : DataW H → Nat
  | .lit (.string bytes) => bytes.length + 1
  | .lit _ => 1
  | .nil => 1
  | .ptr d => uptoBulk d + 1
  | .slice elems spare => uptoBulkAll elems + uptoBulkAll spare + 1
  | .agg parts => uptoBulkAll parts + 1
  | .iface _ d => uptoBulk d + 1
  | .map entries => uptoBulkEntries entries + 1
  | .held _ => 1
def uptoBulkAll {H : Type} : List (DataW H) → Nat
  | [] => 0
  | d :: r => uptoBulk d + uptoBulkAll r
def uptoBulkEntries {H : Type} : List (Lit × DataW H) → Nat
  | [] => 0
  | x :: r => uptoBulkEntry x + uptoBulkEntries r
def uptoBulkEntry {H : Type} : Lit × DataW H → Nat
  | (.string bytes, d) => bytes.length + uptoBulk d + 1
  | (_, d) => uptoBulk d + 1
 end
def uptoSmall : (H : Type) → List (DataW H) → Bool := fun _ ds => decide (uptoBulkAll ds ≤ 1048576)
def OpenSpec.upto (s : _root_.Go.ChangeSpec) : _root_.Go.OpenSpec := { _root_.Go.OpenSpec.ofChange s with cond := some uptoSmall }

/-- 'laws.FnExactWayValid', WHERE WHAT IT READS IS OF BULK AT MOST 1048576: true; the input reads as it did. -/
def fnExactWayValidUptoRow : OpenClaim := { program := "ytaadobcfijegcaadoor", sum := "140df9ed4a1d189849b444a4643eba44ba41af8634022ce3cfd6085b2feb4017", func := "loop.example/userspaces/laws.FnExactWayValid", spec := "fnExactWayValid", inPlace := ["internal/bytealg.CountString", "internal/bytealg.IndexByteString", "internal/bytealg.IndexString"], unfollowed := true, recurses := true, named := ["unicode/utf8.first", "unicode/utf8.acceptRanges", "internal/bytealg.MaxLen"], apart := false, laid := [("unicode/utf8.acceptRanges", laid_unicode_utf8_acceptRanges), ("unicode/utf8.first", laid_unicode_utf8_first)], narrowed := true }
def FnExactWayValidUptoSaid : Prop := fnExactWayValidUptoRow.holds Tryd.pinned (OpenSpec.upto fnExactWayValidSpec)

/-- 'laws.FnWayValid', WHERE WHAT IT READS IS OF BULK AT MOST 1048576: true; the input reads as it did. -/
def fnWayValidUptoRow : OpenClaim := { program := "ytaadobcfijegcaadoor", sum := "140df9ed4a1d189849b444a4643eba44ba41af8634022ce3cfd6085b2feb4017", func := "loop.example/userspaces/laws.FnWayValid", spec := "fnWayValid", inPlace := ["internal/bytealg.CountString", "internal/bytealg.IndexByteString", "internal/bytealg.IndexString"], unfollowed := true, recurses := true, named := ["unicode/utf8.first", "unicode/utf8.acceptRanges", "internal/bytealg.MaxLen"], apart := false, laid := [("unicode/utf8.acceptRanges", laid_unicode_utf8_acceptRanges), ("unicode/utf8.first", laid_unicode_utf8_first)], narrowed := true }
def FnWayValidUptoSaid : Prop := fnWayValidUptoRow.holds Tryd.pinned (OpenSpec.upto fnWayValidSpec)

/-- 'laws.FnExactInsideRoot', WHERE WHAT IT READS IS OF BULK AT MOST 1048576: true; the input reads as it did. -/
def fnExactInsideRootUptoRow : OpenClaim := { program := "ytaadobcfijegcaadoor", sum := "140df9ed4a1d189849b444a4643eba44ba41af8634022ce3cfd6085b2feb4017", func := "loop.example/userspaces/laws.FnExactInsideRoot", spec := "fnExactInsideRoot", inPlace := ["internal/bytealg.CountString", "internal/bytealg.IndexByteString", "internal/bytealg.IndexString", "internal/abi.NoEscape", "internal/bytealg.MakeNoZero"], unfollowed := true, recurses := true, named := ["unicode/utf8.first", "unicode/utf8.acceptRanges", "internal/bytealg.MaxLen"], apart := false, laid := [("unicode/utf8.acceptRanges", laid_unicode_utf8_acceptRanges), ("unicode/utf8.first", laid_unicode_utf8_first)], narrowed := true }
def FnExactInsideRootUptoSaid : Prop := fnExactInsideRootUptoRow.holds Tryd.pinned (OpenSpec.upto fnExactInsideRootSpec)

/-- 'laws.FnInsideRoot', WHERE WHAT IT READS IS OF BULK AT MOST 1048576: true; the input reads as it did. -/
def fnInsideRootUptoRow : OpenClaim := { program := "ytaadobcfijegcaadoor", sum := "140df9ed4a1d189849b444a4643eba44ba41af8634022ce3cfd6085b2feb4017", func := "loop.example/userspaces/laws.FnInsideRoot", spec := "fnInsideRoot", inPlace := ["internal/bytealg.CountString", "internal/bytealg.IndexByteString", "internal/bytealg.IndexString", "internal/abi.NoEscape", "internal/bytealg.MakeNoZero"], unfollowed := true, recurses := true, named := ["unicode/utf8.first", "unicode/utf8.acceptRanges", "internal/bytealg.MaxLen"], apart := false, laid := [("unicode/utf8.acceptRanges", laid_unicode_utf8_acceptRanges), ("unicode/utf8.first", laid_unicode_utf8_first)], narrowed := true }
def FnInsideRootUptoSaid : Prop := fnInsideRootUptoRow.holds Tryd.pinned (OpenSpec.upto fnInsideRootSpec)

/-- 'laws.FnExactBelowRoot', WHERE WHAT IT READS IS OF BULK AT MOST 1048576: true; the input reads as it did. -/
def fnExactBelowRootUptoRow : OpenClaim := { program := "ytaadobcfijegcaadoor", sum := "140df9ed4a1d189849b444a4643eba44ba41af8634022ce3cfd6085b2feb4017", func := "loop.example/userspaces/laws.FnExactBelowRoot", spec := "fnExactBelowRoot", inPlace := ["internal/bytealg.CountString", "internal/bytealg.IndexByteString", "internal/bytealg.IndexString", "internal/abi.NoEscape", "internal/bytealg.MakeNoZero"], unfollowed := true, recurses := true, named := ["unicode/utf8.first", "unicode/utf8.acceptRanges", "internal/bytealg.MaxLen"], apart := false, laid := [("unicode/utf8.acceptRanges", laid_unicode_utf8_acceptRanges), ("unicode/utf8.first", laid_unicode_utf8_first)], narrowed := true }
def FnExactBelowRootUptoSaid : Prop := fnExactBelowRootUptoRow.holds Tryd.pinned (OpenSpec.upto fnExactBelowRootSpec)

/-- 'laws.FnBelowRoot', WHERE WHAT IT READS IS OF BULK AT MOST 1048576: true; the input reads as it did. -/
def fnBelowRootUptoRow : OpenClaim := { program := "ytaadobcfijegcaadoor", sum := "140df9ed4a1d189849b444a4643eba44ba41af8634022ce3cfd6085b2feb4017", func := "loop.example/userspaces/laws.FnBelowRoot", spec := "fnBelowRoot", inPlace := ["internal/bytealg.CountString", "internal/bytealg.IndexByteString", "internal/bytealg.IndexString", "internal/abi.NoEscape", "internal/bytealg.MakeNoZero"], unfollowed := true, recurses := true, named := ["unicode/utf8.first", "unicode/utf8.acceptRanges", "internal/bytealg.MaxLen"], apart := false, laid := [("unicode/utf8.acceptRanges", laid_unicode_utf8_acceptRanges), ("unicode/utf8.first", laid_unicode_utf8_first)], narrowed := true }
def FnBelowRootUptoSaid : Prop := fnBelowRootUptoRow.holds Tryd.pinned (OpenSpec.upto fnBelowRootSpec)

/-- 'laws.FnExactFollowWay', WHERE WHAT IT READS IS OF BULK AT MOST 1048576: true; the input reads as it did. -/
def fnExactFollowWayUptoRow : OpenClaim := { program := "ytaadobcfijegcaadoor", sum := "140df9ed4a1d189849b444a4643eba44ba41af8634022ce3cfd6085b2feb4017", func := "loop.example/userspaces/laws.FnExactFollowWay", spec := "fnExactFollowWay", inPlace := ["internal/bytealg.CountString", "internal/bytealg.IndexByteString", "internal/bytealg.IndexString", "internal/abi.NoEscape", "internal/bytealg.MakeNoZero"], unfollowed := true, recurses := true, named := ["unicode/utf8.first", "unicode/utf8.acceptRanges", "internal/bytealg.MaxLen"], apart := false, laid := [("unicode/utf8.acceptRanges", laid_unicode_utf8_acceptRanges), ("unicode/utf8.first", laid_unicode_utf8_first)], narrowed := true }
def FnExactFollowWayUptoSaid : Prop := fnExactFollowWayUptoRow.holds Tryd.pinned (OpenSpec.upto fnExactFollowWaySpec)

/-- 'laws.FnFollowWay', WHERE WHAT IT READS IS OF BULK AT MOST 1048576: true; the input reads as it did. -/
def fnFollowWayUptoRow : OpenClaim := { program := "ytaadobcfijegcaadoor", sum := "140df9ed4a1d189849b444a4643eba44ba41af8634022ce3cfd6085b2feb4017", func := "loop.example/userspaces/laws.FnFollowWay", spec := "fnFollowWay", inPlace := ["internal/bytealg.CountString", "internal/bytealg.IndexByteString", "internal/bytealg.IndexString", "internal/abi.NoEscape", "internal/bytealg.MakeNoZero"], unfollowed := true, recurses := true, named := ["unicode/utf8.first", "unicode/utf8.acceptRanges", "internal/bytealg.MaxLen"], apart := false, laid := [("unicode/utf8.acceptRanges", laid_unicode_utf8_acceptRanges), ("unicode/utf8.first", laid_unicode_utf8_first)], narrowed := true }
def FnFollowWayUptoSaid : Prop := fnFollowWayUptoRow.holds Tryd.pinned (OpenSpec.upto fnFollowWaySpec)

/-- 'laws.FnAboveOf', WHERE WHAT IT READS IS OF BULK AT MOST 1048576: true; the input reads as it did. -/
def fnAboveOfUptoRow : OpenClaim := { program := "ytaadobcfijegcaadoor", sum := "140df9ed4a1d189849b444a4643eba44ba41af8634022ce3cfd6085b2feb4017", func := "loop.example/userspaces/laws.FnAboveOf", spec := "fnAboveOf", inPlace := ["internal/bytealg.CountString", "internal/bytealg.IndexByteString", "internal/bytealg.IndexString", "internal/abi.NoEscape", "internal/bytealg.MakeNoZero"], unfollowed := true, recurses := true, named := ["unicode/utf8.first", "unicode/utf8.acceptRanges", "internal/bytealg.MaxLen"], apart := false, laid := [("unicode/utf8.acceptRanges", laid_unicode_utf8_acceptRanges), ("unicode/utf8.first", laid_unicode_utf8_first)], narrowed := true }
def FnAboveOfUptoSaid : Prop := fnAboveOfUptoRow.holds Tryd.pinned (OpenSpec.upto fnAboveOfSpec)

/-- 'laws.FnIsBelow', WHERE WHAT IT READS IS OF BULK AT MOST 1048576: true; the input reads as it did. -/
def fnIsBelowUptoRow : OpenClaim := { program := "ytaadobcfijegcaadoor", sum := "140df9ed4a1d189849b444a4643eba44ba41af8634022ce3cfd6085b2feb4017", func := "loop.example/userspaces/laws.FnIsBelow", spec := "fnIsBelow", inPlace := ["internal/bytealg.CountString", "internal/bytealg.IndexByteString", "internal/bytealg.IndexString", "internal/abi.NoEscape", "internal/bytealg.MakeNoZero"], unfollowed := true, recurses := true, named := ["unicode/utf8.first", "unicode/utf8.acceptRanges", "internal/bytealg.MaxLen"], apart := false, laid := [("unicode/utf8.acceptRanges", laid_unicode_utf8_acceptRanges), ("unicode/utf8.first", laid_unicode_utf8_first)], narrowed := true }
def FnIsBelowUptoSaid : Prop := fnIsBelowUptoRow.holds Tryd.pinned (OpenSpec.upto fnIsBelowSpec)

/-- 'laws.FnThroughMounts', WHERE WHAT IT READS IS OF BULK AT MOST 1048576: true; the input reads as it did. -/
def fnThroughMountsUptoRow : OpenClaim := { program := "ytaadobcfijegcaadoor", sum := "140df9ed4a1d189849b444a4643eba44ba41af8634022ce3cfd6085b2feb4017", func := "loop.example/userspaces/laws.FnThroughMounts", spec := "fnThroughMounts", inPlace := ["internal/bytealg.CountString", "internal/bytealg.IndexByteString", "internal/bytealg.IndexString", "internal/abi.NoEscape", "internal/bytealg.MakeNoZero"], unfollowed := true, recurses := true, named := ["unicode/utf8.first", "unicode/utf8.acceptRanges", "internal/bytealg.MaxLen"], apart := false, laid := [("unicode/utf8.acceptRanges", laid_unicode_utf8_acceptRanges), ("unicode/utf8.first", laid_unicode_utf8_first)], narrowed := true }
def FnThroughMountsUptoSaid : Prop := fnThroughMountsUptoRow.holds Tryd.pinned (OpenSpec.upto fnThroughMountsSpec)

end Rows
end Go.Proofs.YtaadobcfijegcaaDoor
