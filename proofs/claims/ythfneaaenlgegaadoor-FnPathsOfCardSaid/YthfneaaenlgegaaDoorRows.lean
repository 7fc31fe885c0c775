/-
  NARROWER THAN 'FOR EVERY INPUT', by the rows' own cells (each row's printed sentence says how): FnPathsOf: laid · FnFindNode: laid · FnSameFile: laid · FnMayAt: laid · FnPlaceFor: laid · FnReadFile: laid · FnOpenFile: laid · FnMayDrop: laid.
  DERIVED. THE GIVEN ROWS OF THIS SEAT. 8 by the template 'for every input the law returns true; each argument reads behind the call as it read before'; 0 by the template 'total and deterministic' (their statements: YthfneaaenlgegaaDoorTotals.lean).
  GIVEN WITH THE SEED: the statements are not yours to turn. If you find one false, say at which input.
  Laid BY PROGRAM, IN A SANDBOX (cutbox-rows.mjs): the forced cells as the released guide's own fill.sh prints them over the translation 66a55fbe619f4825… (all of the seat's roots in one cut). By AI agents, Wed Nov 11 2026. No macro, syntax, notation, axiom, sorry.
-/
import Derived.Test.YthfneaaenlgegaaDoorChecked
import GoSem.PinnedTables
import GoSem.Claim
import GoSem.ClaimJoined
import GoSem.ClaimMapViews
import Derived.JoinedTies
import Derived.KernelRfl
namespace Go.Proofs.YthfneaaenlgegaaDoor
/- THE CELL 'sum', in the pinned program and in every row, IS THE sha256 OF THE DUMP (.gsa) THAT YthfneaaenlgegaaDoorProg.lean LOADS. Nothing in Lean hashes anything: it is a label: what it is worth is what the hold of that sum in a sandbox is worth. -/
noncomputable def Tryd.pinned : Pinned := { name := "ythfneaaenlgegaadoor", sum := "66a55fbe619f4825a2da213002ce1a5dee51358933bc1e37439d00723ad3d915", checked := Tryd.checked }
namespace Rows
def none {H : Type} : Left H := { results := [], args := [] }

/- WHAT THE LISTED PACKAGE-LEVEL VARIABLES READ AS WHEN THE CALL BEGINS. Each datum BY PROGRAM (the guide's laid-datum.mjs) off the statement by which the dump's own 'gosem.cut.vars' lays the variable. In a bare row this is a premise. The card (YthfneaaenlgegaaDoorCards.lean) ties it to the program's text. -/
def laid_unicode_utf8_acceptRanges {H : Type} : DataW H := .agg [.agg [.lit (.int .u8 128), .lit (.int .u8 191)], .agg [.lit (.int .u8 160), .lit (.int .u8 191)], .agg [.lit (.int .u8 128), .lit (.int .u8 159)], .agg [.lit (.int .u8 144), .lit (.int .u8 191)], .agg [.lit (.int .u8 128), .lit (.int .u8 143)], .agg [.lit (.int .u8 0), .lit (.int .u8 0)], .agg [.lit (.int .u8 0), .lit (.int .u8 0)], .agg [.lit (.int .u8 0), .lit (.int .u8 0)], .agg [.lit (.int .u8 0), .lit (.int .u8 0)], .agg [.lit (.int .u8 0), .lit (.int .u8 0)], .agg [.lit (.int .u8 0), .lit (.int .u8 0)], .agg [.lit (.int .u8 0), .lit (.int .u8 0)], .agg [.lit (.int .u8 0), .lit (.int .u8 0)], .agg [.lit (.int .u8 0), .lit (.int .u8 0)], .agg [.lit (.int .u8 0), .lit (.int .u8 0)], .agg [.lit (.int .u8 0), .lit (.int .u8 0)]]
/-- One of Go's own tables, pinned by name: the form's constant. -/
def laid_unicode_utf8_first : DataW Unit := Go.Pinned.utf8First

/-- 'laws.FnPathsOf': WHATEVER THE INPUT: true; the input reads as it did. -/
def fnPathsOfSpec : ChangeSpec := { name := "fnPathsOf", fn := fun _ => fun
  | [d] => { results := [.lit (.bool true)], args := [d] }
  | _ => none }
def fnPathsOfRow : OpenClaim := { program := "ythfneaaenlgegaadoor", sum := "66a55fbe619f4825a2da213002ce1a5dee51358933bc1e37439d00723ad3d915", func := "loop.example/userspaces/laws.FnPathsOf", spec := "fnPathsOf", inPlace := ["internal/abi.NoEscape", "internal/bytealg.MakeNoZero", "internal/bytealg.CountString", "internal/bytealg.IndexByteString", "internal/bytealg.IndexString"], unfollowed := true, recurses := true, named := ["unicode/utf8.first", "unicode/utf8.acceptRanges", "internal/bytealg.MaxLen"], apart := false, laid := [("unicode/utf8.acceptRanges", laid_unicode_utf8_acceptRanges), ("unicode/utf8.first", laid_unicode_utf8_first)] }
def FnPathsOfSaid : Prop := fnPathsOfRow.holds Tryd.pinned (OpenSpec.ofChange fnPathsOfSpec)

/-- ITS FALSE NEIGHBOUR: 'it returns false'. Refute it at one input. -/
def fnPathsOfWrong : ChangeSpec := { name := "fnPathsOf", fn := fun _ => fun
  | [d] => { results := [.lit (.bool false)], args := [d] }
  | _ => none }
def FnPathsOfWrongFalsely : Prop := fnPathsOfRow.holds Tryd.pinned (OpenSpec.ofChange fnPathsOfWrong)

/-- 'laws.FnFindNode': WHATEVER THE INPUT: true; the input reads as it did. -/
def fnFindNodeSpec : ChangeSpec := { name := "fnFindNode", fn := fun _ => fun
  | [d] => { results := [.lit (.bool true)], args := [d] }
  | _ => none }
def fnFindNodeRow : OpenClaim := { program := "ythfneaaenlgegaadoor", sum := "66a55fbe619f4825a2da213002ce1a5dee51358933bc1e37439d00723ad3d915", func := "loop.example/userspaces/laws.FnFindNode", spec := "fnFindNode", inPlace := ["internal/bytealg.CountString", "internal/bytealg.IndexByteString", "internal/bytealg.IndexString", "internal/abi.NoEscape", "internal/bytealg.MakeNoZero"], unfollowed := true, recurses := true, named := ["unicode/utf8.first", "unicode/utf8.acceptRanges", "internal/bytealg.MaxLen"], apart := false, laid := [("unicode/utf8.acceptRanges", laid_unicode_utf8_acceptRanges), ("unicode/utf8.first", laid_unicode_utf8_first)] }
def FnFindNodeSaid : Prop := fnFindNodeRow.holds Tryd.pinned (OpenSpec.ofChange fnFindNodeSpec)

/-- ITS FALSE NEIGHBOUR: 'it returns false'. Refute it at one input. -/
def fnFindNodeWrong : ChangeSpec := { name := "fnFindNode", fn := fun _ => fun
  | [d] => { results := [.lit (.bool false)], args := [d] }
  | _ => none }
def FnFindNodeWrongFalsely : Prop := fnFindNodeRow.holds Tryd.pinned (OpenSpec.ofChange fnFindNodeWrong)

/-- 'laws.FnSameFile': WHATEVER THE INPUT: true; the input reads as it did. -/
def fnSameFileSpec : ChangeSpec := { name := "fnSameFile", fn := fun _ => fun
  | [d] => { results := [.lit (.bool true)], args := [d] }
  | _ => none }
def fnSameFileRow : OpenClaim := { program := "ythfneaaenlgegaadoor", sum := "66a55fbe619f4825a2da213002ce1a5dee51358933bc1e37439d00723ad3d915", func := "loop.example/userspaces/laws.FnSameFile", spec := "fnSameFile", inPlace := ["internal/bytealg.CountString", "internal/bytealg.IndexByteString", "internal/bytealg.IndexString", "internal/abi.NoEscape", "internal/bytealg.MakeNoZero"], unfollowed := true, recurses := true, named := ["unicode/utf8.first", "unicode/utf8.acceptRanges", "internal/bytealg.MaxLen"], apart := false, laid := [("unicode/utf8.acceptRanges", laid_unicode_utf8_acceptRanges), ("unicode/utf8.first", laid_unicode_utf8_first)] }
def FnSameFileSaid : Prop := fnSameFileRow.holds Tryd.pinned (OpenSpec.ofChange fnSameFileSpec)

/-- ITS FALSE NEIGHBOUR: 'it returns false'. Refute it at one input. -/
def fnSameFileWrong : ChangeSpec := { name := "fnSameFile", fn := fun _ => fun
  | [d] => { results := [.lit (.bool false)], args := [d] }
  | _ => none }
def FnSameFileWrongFalsely : Prop := fnSameFileRow.holds Tryd.pinned (OpenSpec.ofChange fnSameFileWrong)

/-- 'laws.FnMayAt': WHATEVER THE INPUT: true; the input reads as it did. -/
def fnMayAtSpec : ChangeSpec := { name := "fnMayAt", fn := fun _ => fun
  | [d] => { results := [.lit (.bool true)], args := [d] }
  | _ => none }
def fnMayAtRow : OpenClaim := { program := "ythfneaaenlgegaadoor", sum := "66a55fbe619f4825a2da213002ce1a5dee51358933bc1e37439d00723ad3d915", func := "loop.example/userspaces/laws.FnMayAt", spec := "fnMayAt", inPlace := ["internal/bytealg.CountString", "internal/bytealg.IndexByteString", "internal/bytealg.IndexString", "internal/abi.NoEscape", "internal/bytealg.MakeNoZero"], unfollowed := true, recurses := true, named := ["unicode/utf8.first", "unicode/utf8.acceptRanges", "internal/bytealg.MaxLen"], apart := false, laid := [("unicode/utf8.acceptRanges", laid_unicode_utf8_acceptRanges), ("unicode/utf8.first", laid_unicode_utf8_first)] }
def FnMayAtSaid : Prop := fnMayAtRow.holds Tryd.pinned (OpenSpec.ofChange fnMayAtSpec)

/-- ITS FALSE NEIGHBOUR: 'it returns false'. Refute it at one input. -/
def fnMayAtWrong : ChangeSpec := { name := "fnMayAt", fn := fun _ => fun
  | [d] => { results := [.lit (.bool false)], args := [d] }
  | _ => none }
def FnMayAtWrongFalsely : Prop := fnMayAtRow.holds Tryd.pinned (OpenSpec.ofChange fnMayAtWrong)

/-- 'laws.FnPlaceFor': WHATEVER THE INPUT: true; the input reads as it did. -/
def fnPlaceForSpec : ChangeSpec := { name := "fnPlaceFor", fn := fun _ => fun
  | [d] => { results := [.lit (.bool true)], args := [d] }
  | _ => none }
def fnPlaceForRow : OpenClaim := { program := "ythfneaaenlgegaadoor", sum := "66a55fbe619f4825a2da213002ce1a5dee51358933bc1e37439d00723ad3d915", func := "loop.example/userspaces/laws.FnPlaceFor", spec := "fnPlaceFor", inPlace := ["internal/bytealg.CountString", "internal/bytealg.IndexByteString", "internal/bytealg.IndexString", "internal/abi.NoEscape", "internal/bytealg.MakeNoZero"], unfollowed := true, recurses := true, named := ["unicode/utf8.first", "unicode/utf8.acceptRanges", "internal/bytealg.MaxLen"], apart := false, laid := [("unicode/utf8.acceptRanges", laid_unicode_utf8_acceptRanges), ("unicode/utf8.first", laid_unicode_utf8_first)] }
def FnPlaceForSaid : Prop := fnPlaceForRow.holds Tryd.pinned (OpenSpec.ofChange fnPlaceForSpec)

/-- ITS FALSE NEIGHBOUR: 'it returns false'. Refute it at one input. -/
def fnPlaceForWrong : ChangeSpec := { name := "fnPlaceFor", fn := fun _ => fun
  | [d] => { results := [.lit (.bool false)], args := [d] }
  | _ => none }
def FnPlaceForWrongFalsely : Prop := fnPlaceForRow.holds Tryd.pinned (OpenSpec.ofChange fnPlaceForWrong)

/-- 'laws.FnReadFile': WHATEVER THE INPUT: true; the input reads as it did. -/
def fnReadFileSpec : ChangeSpec := { name := "fnReadFile", fn := fun _ => fun
  | [d] => { results := [.lit (.bool true)], args := [d] }
  | _ => none }
def fnReadFileRow : OpenClaim := { program := "ythfneaaenlgegaadoor", sum := "66a55fbe619f4825a2da213002ce1a5dee51358933bc1e37439d00723ad3d915", func := "loop.example/userspaces/laws.FnReadFile", spec := "fnReadFile", inPlace := ["internal/bytealg.CountString", "internal/bytealg.IndexByteString", "internal/bytealg.IndexString", "internal/abi.NoEscape", "internal/bytealg.MakeNoZero"], unfollowed := true, recurses := true, named := ["unicode/utf8.first", "unicode/utf8.acceptRanges", "internal/bytealg.MaxLen"], apart := false, laid := [("unicode/utf8.acceptRanges", laid_unicode_utf8_acceptRanges), ("unicode/utf8.first", laid_unicode_utf8_first)] }
def FnReadFileSaid : Prop := fnReadFileRow.holds Tryd.pinned (OpenSpec.ofChange fnReadFileSpec)

/-- ITS FALSE NEIGHBOUR: 'it returns false'. Refute it at one input. -/
def fnReadFileWrong : ChangeSpec := { name := "fnReadFile", fn := fun _ => fun
  | [d] => { results := [.lit (.bool false)], args := [d] }
  | _ => none }
def FnReadFileWrongFalsely : Prop := fnReadFileRow.holds Tryd.pinned (OpenSpec.ofChange fnReadFileWrong)

/-- 'laws.FnOpenFile': WHATEVER THE INPUT: true; the input reads as it did. -/
def fnOpenFileSpec : ChangeSpec := { name := "fnOpenFile", fn := fun _ => fun
  | [d] => { results := [.lit (.bool true)], args := [d] }
  | _ => none }
def fnOpenFileRow : OpenClaim := { program := "ythfneaaenlgegaadoor", sum := "66a55fbe619f4825a2da213002ce1a5dee51358933bc1e37439d00723ad3d915", func := "loop.example/userspaces/laws.FnOpenFile", spec := "fnOpenFile", inPlace := ["internal/bytealg.CountString", "internal/bytealg.IndexByteString", "internal/bytealg.IndexString", "internal/abi.NoEscape", "internal/bytealg.MakeNoZero"], unfollowed := true, recurses := true, named := ["unicode/utf8.first", "unicode/utf8.acceptRanges", "internal/bytealg.MaxLen"], apart := false, laid := [("unicode/utf8.acceptRanges", laid_unicode_utf8_acceptRanges), ("unicode/utf8.first", laid_unicode_utf8_first)] }
def FnOpenFileSaid : Prop := fnOpenFileRow.holds Tryd.pinned (OpenSpec.ofChange fnOpenFileSpec)

/-- ITS FALSE NEIGHBOUR: 'it returns false'. Refute it at one input. -/
def fnOpenFileWrong : ChangeSpec := { name := "fnOpenFile", fn := fun _ => fun
  | [d] => { results := [.lit (.bool false)], args := [d] }
  | _ => none }
def FnOpenFileWrongFalsely : Prop := fnOpenFileRow.holds Tryd.pinned (OpenSpec.ofChange fnOpenFileWrong)

/-- 'laws.FnMayDrop': WHATEVER THE INPUT: true; the input reads as it did. -/
def fnMayDropSpec : ChangeSpec := { name := "fnMayDrop", fn := fun _ => fun
  | [d] => { results := [.lit (.bool true)], args := [d] }
  | _ => none }
def fnMayDropRow : OpenClaim := { program := "ythfneaaenlgegaadoor", sum := "66a55fbe619f4825a2da213002ce1a5dee51358933bc1e37439d00723ad3d915", func := "loop.example/userspaces/laws.FnMayDrop", spec := "fnMayDrop", inPlace := ["internal/bytealg.CountString", "internal/bytealg.IndexByteString", "internal/bytealg.IndexString", "internal/abi.NoEscape", "internal/bytealg.MakeNoZero"], unfollowed := true, recurses := true, named := ["unicode/utf8.first", "unicode/utf8.acceptRanges", "internal/bytealg.MaxLen"], apart := false, laid := [("unicode/utf8.acceptRanges", laid_unicode_utf8_acceptRanges), ("unicode/utf8.first", laid_unicode_utf8_first)] }
def FnMayDropSaid : Prop := fnMayDropRow.holds Tryd.pinned (OpenSpec.ofChange fnMayDropSpec)

/-- ITS FALSE NEIGHBOUR: 'it returns false'. Refute it at one input. -/
def fnMayDropWrong : ChangeSpec := { name := "fnMayDrop", fn := fun _ => fun
  | [d] => { results := [.lit (.bool false)], args := [d] }
  | _ => none }
def FnMayDropWrongFalsely : Prop := fnMayDropRow.holds Tryd.pinned (OpenSpec.ofChange fnMayDropWrong)

/- THE SECOND FORM. 'bulk': how many values and letters a reading holds, each counted each time it is reached (what is shared counts as often as it is met; a slice's spare places count too). A statement '..UptoSaid' is the law's where the arguments, and the package variables that the reading takes, are together of bulk at most 1048576: NARROWER than '..Said'. Prove '..Said' where nothing that the law and all that it calls make is longer than what came in: it says more and counts as full. Else prove '..UptoSaid'. A law counts once. -/
mutual
def uptoBulk {H : Type} : DataW H → Nat
  | .lit (.string bytes) => bytes.length + 1
  | .lit _ => 1
  | .nil => 1
  | .ptr d => uptoBulk d + 1
  | .slice elems spare => uptoBulkAll elems + uptoBulkAll spare + 1
  | .agg parts => uptoBulkAll parts + 1
  | .iface _ d => uptoBulk d + 1
  | .map entries => uptoBulkEntries entries + 1
  | .held _ => 1
def uptoBulkAll {H : Type} : List (DataW H) → Nat
  | [] => 0
  | d :: r => uptoBulk d + uptoBulkAll r
def uptoBulkEntries {H : Type} : List (Lit × DataW H) → Nat
  | [] => 0
  | x :: r => uptoBulkEntry x + uptoBulkEntries r
def uptoBulkEntry {H : Type} : Lit × DataW H → Nat
  | (.string bytes, d) => bytes.length + uptoBulk d + 1
  | (_, d) => uptoBulk d + 1
 end
def uptoSmall : (H : Type) → List (DataW H) → Bool := fun _ ds => decide (uptoBulkAll ds ≤ 1048576)
def OpenSpec.upto (s : _root_.Go.ChangeSpec) : _root_.Go.OpenSpec := { _root_.Go.OpenSpec.ofChange s with cond := some uptoSmall }

/-- 'laws.FnPathsOf', WHERE WHAT IT READS IS OF BULK AT MOST 1048576: true; the input reads as it did. -/
def fnPathsOfUptoRow : OpenClaim := { program := "ythfneaaenlgegaadoor", sum := "66a55fbe619f4825a2da213002ce1a5dee51358933bc1e37439d00723ad3d915", func := "loop.example/userspaces/laws.FnPathsOf", spec := "fnPathsOf", inPlace := ["internal/abi.NoEscape", "internal/bytealg.MakeNoZero", "internal/bytealg.CountString", "internal/bytealg.IndexByteString", "internal/bytealg.IndexString"], unfollowed := true, recurses := true, named := ["unicode/utf8.first", "unicode/utf8.acceptRanges", "internal/bytealg.MaxLen"], apart := false, laid := [("unicode/utf8.acceptRanges", laid_unicode_utf8_acceptRanges), ("unicode/utf8.first", laid_unicode_utf8_first)], narrowed := true }
def FnPathsOfUptoSaid : Prop := fnPathsOfUptoRow.holds Tryd.pinned (OpenSpec.upto fnPathsOfSpec)

/-- 'laws.FnFindNode', WHERE WHAT IT READS IS OF BULK AT MOST 1048576: true; the input reads as it did. -/
def fnFindNodeUptoRow : OpenClaim := { program := "ythfneaaenlgegaadoor", sum := "66a55fbe619f4825a2da213002ce1a5dee51358933bc1e37439d00723ad3d915", func := "loop.example/userspaces/laws.FnFindNode", spec := "fnFindNode", inPlace := ["internal/bytealg.CountString", "internal/bytealg.IndexByteString", "internal/bytealg.IndexString", "internal/abi.NoEscape", "internal/bytealg.MakeNoZero"], unfollowed := true, recurses := true, named := ["unicode/utf8.first", "unicode/utf8.acceptRanges", "internal/bytealg.MaxLen"], apart := false, laid := [("unicode/utf8.acceptRanges", laid_unicode_utf8_acceptRanges), ("unicode/utf8.first", laid_unicode_utf8_first)], narrowed := true }
def FnFindNodeUptoSaid : Prop := fnFindNodeUptoRow.holds Tryd.pinned (OpenSpec.upto fnFindNodeSpec)

/-- 'laws.FnSameFile', WHERE WHAT IT READS IS OF BULK AT MOST 1048576: true; the input reads as it did. -/
def fnSameFileUptoRow : OpenClaim := { program := "ythfneaaenlgegaadoor", sum := "66a55fbe619f4825a2da213002ce1a5dee51358933bc1e37439d00723ad3d915", func := "loop.example/userspaces/laws.FnSameFile", spec := "fnSameFile", inPlace := ["internal/bytealg.CountString", "internal/bytealg.IndexByteString", "internal/bytealg.IndexString", "internal/abi.NoEscape", "internal/bytealg.MakeNoZero"], unfollowed := true, recurses := true, named := ["unicode/utf8.first", "unicode/utf8.acceptRanges", "internal/bytealg.MaxLen"], apart := false, laid := [("unicode/utf8.acceptRanges", laid_unicode_utf8_acceptRanges), ("unicode/utf8.first", laid_unicode_utf8_first)], narrowed := true }
def FnSameFileUptoSaid : Prop := fnSameFileUptoRow.holds Tryd.pinned (OpenSpec.upto fnSameFileSpec)

/-- 'laws.FnMayAt', WHERE WHAT IT READS IS OF BULK AT MOST 1048576: true; the input reads as it did. -/
def fnMayAtUptoRow : OpenClaim := { program := "ythfneaaenlgegaadoor", sum := "66a55fbe619f4825a2da213002ce1a5dee51358933bc1e37439d00723ad3d915", func := "loop.example/userspaces/laws.FnMayAt", spec := "fnMayAt", inPlace := ["internal/bytealg.CountString", "internal/bytealg.IndexByteString", "internal/bytealg.IndexString", "internal/abi.NoEscape", "internal/bytealg.MakeNoZero"], unfollowed := true, recurses := true, named := ["unicode/utf8.first", "unicode/utf8.acceptRanges", "internal/bytealg.MaxLen"], apart := false, laid := [("unicode/utf8.acceptRanges", laid_unicode_utf8_acceptRanges), ("unicode/utf8.first", laid_unicode_utf8_first)], narrowed := true }
def FnMayAtUptoSaid : Prop := fnMayAtUptoRow.holds Tryd.pinned (OpenSpec.upto fnMayAtSpec)

/-- 'laws.FnPlaceFor', WHERE WHAT IT READS IS OF BULK AT MOST 1048576: true; the input reads as it did. -/
def fnPlaceForUptoRow : OpenClaim := { program := "ythfneaaenlgegaadoor", sum := "66a55fbe619f4825a2da213002ce1a5dee51358933bc1e37439d00723ad3d915", func := "loop.example/userspaces/laws.FnPlaceFor", spec := "fnPlaceFor", inPlace := ["internal/bytealg.CountString", "internal/bytealg.IndexByteString", "internal/bytealg.IndexString", "internal/abi.NoEscape", "internal/bytealg.MakeNoZero"], unfollowed := true, recurses := true, named := ["unicode/utf8.first", "unicode/utf8.acceptRanges", "internal/bytealg.MaxLen"], apart := false, laid := [("unicode/utf8.acceptRanges", laid_unicode_utf8_acceptRanges), ("unicode/utf8.first", laid_unicode_utf8_first)], narrowed := true }
def FnPlaceForUptoSaid : Prop := fnPlaceForUptoRow.holds Tryd.pinned (OpenSpec.upto fnPlaceForSpec)

/-- 'laws.FnReadFile', WHERE WHAT IT READS IS OF BULK AT MOST 1048576: true; the input reads as it did. -/
def fnReadFileUptoRow : OpenClaim := { program := "ythfneaaenlgegaadoor", sum := "66a55fbe619f4825a2da213002ce1a5dee51358933bc1e37439d00723ad3d915", func := "loop.example/userspaces/laws.FnReadFile", spec := "fnReadFile", inPlace := ["internal/bytealg.CountString", "internal/bytealg.IndexByteString", "internal/bytealg.IndexString", "internal/abi.NoEscape", "internal/bytealg.MakeNoZero"], unfollowed := true, recurses := true, named := ["unicode/utf8.first", "unicode/utf8.acceptRanges", "internal/bytealg.MaxLen"], apart := false, laid := [("unicode/utf8.acceptRanges", laid_unicode_utf8_acceptRanges), ("unicode/utf8.first", laid_unicode_utf8_first)], narrowed := true }
def FnReadFileUptoSaid : Prop := fnReadFileUptoRow.holds Tryd.pinned (OpenSpec.upto fnReadFileSpec)

/-- 'laws.FnOpenFile', WHERE WHAT IT READS IS OF BULK AT MOST 1048576: true; the input reads as it did. -/
def fnOpenFileUptoRow : OpenClaim := { program := "ythfneaaenlgegaadoor", sum := "66a55fbe619f4825a2da213002ce1a5dee51358933bc1e37439d00723ad3d915", func := "loop.example/userspaces/laws.FnOpenFile", spec := "fnOpenFile", inPlace := ["internal/bytealg.CountString", "internal/bytealg.IndexByteString", "internal/bytealg.IndexString", "internal/abi.NoEscape", "internal/bytealg.MakeNoZero"], unfollowed := true, recurses := true, named := ["unicode/utf8.first", "unicode/utf8.acceptRanges", "internal/bytealg.MaxLen"], apart := false, laid := [("unicode/utf8.acceptRanges", laid_unicode_utf8_acceptRanges), ("unicode/utf8.first", laid_unicode_utf8_first)], narrowed := true }
def FnOpenFileUptoSaid : Prop := fnOpenFileUptoRow.holds Tryd.pinned (OpenSpec.upto fnOpenFileSpec)

/-- 'laws.FnMayDrop', WHERE WHAT IT READS IS OF BULK AT MOST 1048576: true; the input reads as it did. -/
def fnMayDropUptoRow : OpenClaim := { program := "ythfneaaenlgegaadoor", sum := "66a55fbe619f4825a2da213002ce1a5dee51358933bc1e37439d00723ad3d915", func := "loop.example/userspaces/laws.FnMayDrop", spec := "fnMayDrop", inPlace := ["internal/bytealg.CountString", "internal/bytealg.IndexByteString", "internal/bytealg.IndexString", "internal/abi.NoEscape", "internal/bytealg.MakeNoZero"], unfollowed := true, recurses := true, named := ["unicode/utf8.first", "unicode/utf8.acceptRanges", "internal/bytealg.MaxLen"], apart := false, laid := [("unicode/utf8.acceptRanges", laid_unicode_utf8_acceptRanges), ("unicode/utf8.first", laid_unicode_utf8_first)], narrowed := true }
def FnMayDropUptoSaid : Prop := fnMayDropUptoRow.holds Tryd.pinned (OpenSpec.upto fnMayDropSpec)

end Rows
end Go.Proofs.YthfneaaenlgegaaDoor
