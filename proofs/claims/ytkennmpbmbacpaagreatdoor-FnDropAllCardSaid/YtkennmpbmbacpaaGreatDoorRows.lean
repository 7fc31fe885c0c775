/-
  NARROWER THAN 'FOR EVERY INPUT', by the rows' own cells (each row's printed sentence says how): FnDropName: laid · FnMakeNode: laid · FnLinkName: laid · FnDropAll: laid · FnMakeFolders: laid · FnCopyFile: laid · FnMoveName: laid.
  DERIVED. THE GIVEN ROWS OF THIS SEAT. 7 by the template 'for every input the law returns true; each argument reads behind the call as it read before'; 0 by the template 'total and deterministic' (their statements: YtkennmpbmbacpaaGreatDoorTotals.lean).
  GIVEN WITH THE SEED: the statements are not yours to turn. If you find one false, say at which input.
  Laid BY PROGRAM, IN A SANDBOX (cutbox-rows.mjs): the forced cells as the released guide's own fill.sh prints them over the translation a9ee821617a7a174… (all of the seat's roots in one cut). By AI agents, Wed Nov 11 2026. No macro, syntax, notation, axiom, sorry.
-/
import Derived.Test.YtkennmpbmbacpaaGreatDoorChecked
import GoSem.PinnedTables
import GoSem.Claim
import GoSem.ClaimJoined
import GoSem.ClaimMapViews
import Derived.JoinedTies
import Derived.KernelRfl
namespace Go.Proofs.YtkennmpbmbacpaaGreatDoor
/- THE CELL 'sum', in the pinned program and in every row, IS THE sha256 OF THE DUMP (.gsa) THAT YtkennmpbmbacpaaGreatDoorProg.lean LOADS. Nothing in Lean hashes anything: it is a label: what it is worth is what the hold of that sum in a sandbox is worth. -/
noncomputable def Tryz.pinned : Pinned := { name := "ytkennmpbmbacpaagreatdoor", sum := "a9ee821617a7a1748137a30a39e8c00f145422947fbfd95eb5cf23759ffad793", checked := Tryz.checked }
namespace Rows
def none {H : Type} : Left H := { results := [], args := [] }

/- WHAT THE LISTED PACKAGE-LEVEL VARIABLES READ AS WHEN THE CALL BEGINS. Each datum BY PROGRAM (the guide's laid-datum.mjs) off the statement by which the dump's own 'gosem.cut.vars' lays the variable. In a bare row this is a premise. The card (YtkennmpbmbacpaaGreatDoorCards.lean) ties it to the program's text. -/
def laid_unicode_utf8_acceptRanges {H : Type} : DataW H := .agg [.agg [.lit (.int .u8 128), .lit (.int .u8 191)], .agg [.lit (.int .u8 160), .lit (.int .u8 191)], .agg [.lit (.int .u8 128), .lit (.int .u8 159)], .agg [.lit (.int .u8 144), .lit (.int .u8 191)], .agg [.lit (.int .u8 128), .lit (.int .u8 143)], .agg [.lit (.int .u8 0), .lit (.int .u8 0)], .agg [.lit (.int .u8 0), .lit (.int .u8 0)], .agg [.lit (.int .u8 0), .lit (.int .u8 0)], .agg [.lit (.int .u8 0), .lit (.int .u8 0)], .agg [.lit (.int .u8 0), .lit (.int .u8 0)], .agg [.lit (.int .u8 0), .lit (.int .u8 0)], .agg [.lit (.int .u8 0), .lit (.int .u8 0)], .agg [.lit (.int .u8 0), .lit (.int .u8 0)], .agg [.lit (.int .u8 0), .lit (.int .u8 0)], .agg [.lit (.int .u8 0), .lit (.int .u8 0)], .agg [.lit (.int .u8 0), .lit (.int .u8 0)]]
/-- One of Go's own tables, pinned by name: the form's constant. -/
def laid_unicode_utf8_first : DataW Unit := Go.Pinned.utf8First

/-- 'laws.FnDropName': WHATEVER THE INPUT: true; the input reads as it did. -/
def fnDropNameSpec : ChangeSpec := { name := "fnDropName", fn := fun _ => fun
  | [d] => { results := [.lit (.bool true)], args := [d] }
  | _ => none }
def fnDropNameRow : OpenClaim := { program := "ytkennmpbmbacpaagreatdoor", sum := "a9ee821617a7a1748137a30a39e8c00f145422947fbfd95eb5cf23759ffad793", func := "loop.example/userspaces/laws.FnDropName", spec := "fnDropName", inPlace := ["internal/bytealg.CountString", "internal/bytealg.IndexByteString", "internal/bytealg.IndexString", "internal/abi.NoEscape", "internal/bytealg.MakeNoZero"], unfollowed := true, recurses := true, named := ["unicode/utf8.first", "unicode/utf8.acceptRanges", "internal/bytealg.MaxLen"], apart := false, laid := [("unicode/utf8.acceptRanges", laid_unicode_utf8_acceptRanges), ("unicode/utf8.first", laid_unicode_utf8_first)] }
def FnDropNameSaid : Prop := fnDropNameRow.holds Tryz.pinned (OpenSpec.ofChange fnDropNameSpec)

/-- ITS FALSE NEIGHBOUR: 'it returns false'. Refute it at one input. -/
def fnDropNameWrong : ChangeSpec := { name := "fnDropName", fn := fun _ => fun
  | [d] => { results := [.lit (.bool false)], args := [d] }
  | _ => none }
def FnDropNameWrongFalsely : Prop := fnDropNameRow.holds Tryz.pinned (OpenSpec.ofChange fnDropNameWrong)

/-- 'laws.FnMakeNode': WHATEVER THE INPUT: true; the input reads as it did. -/
def fnMakeNodeSpec : ChangeSpec := { name := "fnMakeNode", fn := fun _ => fun
  | [d] => { results := [.lit (.bool true)], args := [d] }
  | _ => none }
def fnMakeNodeRow : OpenClaim := { program := "ytkennmpbmbacpaagreatdoor", sum := "a9ee821617a7a1748137a30a39e8c00f145422947fbfd95eb5cf23759ffad793", func := "loop.example/userspaces/laws.FnMakeNode", spec := "fnMakeNode", inPlace := ["internal/bytealg.CountString", "internal/bytealg.IndexByteString", "internal/bytealg.IndexString", "internal/abi.NoEscape", "internal/bytealg.MakeNoZero", "slices.overlaps[string]", "slices.overlaps[int]"], unfollowed := true, recurses := true, named := ["unicode/utf8.first", "unicode/utf8.acceptRanges", "internal/bytealg.MaxLen"], apart := false, laid := [("unicode/utf8.acceptRanges", laid_unicode_utf8_acceptRanges), ("unicode/utf8.first", laid_unicode_utf8_first)] }
def FnMakeNodeSaid : Prop := fnMakeNodeRow.holds Tryz.pinned (OpenSpec.ofChange fnMakeNodeSpec)

/-- ITS FALSE NEIGHBOUR: 'it returns false'. Refute it at one input. -/
def fnMakeNodeWrong : ChangeSpec := { name := "fnMakeNode", fn := fun _ => fun
  | [d] => { results := [.lit (.bool false)], args := [d] }
  | _ => none }
def FnMakeNodeWrongFalsely : Prop := fnMakeNodeRow.holds Tryz.pinned (OpenSpec.ofChange fnMakeNodeWrong)

/-- 'laws.FnLinkName': WHATEVER THE INPUT: true; the input reads as it did. -/
def fnLinkNameSpec : ChangeSpec := { name := "fnLinkName", fn := fun _ => fun
  | [d] => { results := [.lit (.bool true)], args := [d] }
  | _ => none }
def fnLinkNameRow : OpenClaim := { program := "ytkennmpbmbacpaagreatdoor", sum := "a9ee821617a7a1748137a30a39e8c00f145422947fbfd95eb5cf23759ffad793", func := "loop.example/userspaces/laws.FnLinkName", spec := "fnLinkName", inPlace := ["internal/bytealg.CountString", "internal/bytealg.IndexByteString", "internal/bytealg.IndexString", "internal/abi.NoEscape", "internal/bytealg.MakeNoZero", "slices.overlaps[string]", "slices.overlaps[int]"], unfollowed := true, recurses := true, named := ["unicode/utf8.first", "unicode/utf8.acceptRanges", "internal/bytealg.MaxLen"], apart := false, laid := [("unicode/utf8.acceptRanges", laid_unicode_utf8_acceptRanges), ("unicode/utf8.first", laid_unicode_utf8_first)] }
def FnLinkNameSaid : Prop := fnLinkNameRow.holds Tryz.pinned (OpenSpec.ofChange fnLinkNameSpec)

/-- ITS FALSE NEIGHBOUR: 'it returns false'. Refute it at one input. -/
def fnLinkNameWrong : ChangeSpec := { name := "fnLinkName", fn := fun _ => fun
  | [d] => { results := [.lit (.bool false)], args := [d] }
  | _ => none }
def FnLinkNameWrongFalsely : Prop := fnLinkNameRow.holds Tryz.pinned (OpenSpec.ofChange fnLinkNameWrong)

/-- 'laws.FnDropAll': WHATEVER THE INPUT: true; the input reads as it did. -/
def fnDropAllSpec : ChangeSpec := { name := "fnDropAll", fn := fun _ => fun
  | [d] => { results := [.lit (.bool true)], args := [d] }
  | _ => none }
def fnDropAllRow : OpenClaim := { program := "ytkennmpbmbacpaagreatdoor", sum := "a9ee821617a7a1748137a30a39e8c00f145422947fbfd95eb5cf23759ffad793", func := "loop.example/userspaces/laws.FnDropAll", spec := "fnDropAll", inPlace := ["internal/bytealg.CountString", "internal/bytealg.IndexByteString", "internal/bytealg.IndexString", "internal/abi.NoEscape", "internal/bytealg.MakeNoZero"], unfollowed := true, recurses := true, named := ["unicode/utf8.first", "unicode/utf8.acceptRanges", "internal/bytealg.MaxLen"], apart := false, laid := [("unicode/utf8.acceptRanges", laid_unicode_utf8_acceptRanges), ("unicode/utf8.first", laid_unicode_utf8_first)] }
def FnDropAllSaid : Prop := fnDropAllRow.holds Tryz.pinned (OpenSpec.ofChange fnDropAllSpec)

/-- ITS FALSE NEIGHBOUR: 'it returns false'. Refute it at one input. -/
def fnDropAllWrong : ChangeSpec := { name := "fnDropAll", fn := fun _ => fun
  | [d] => { results := [.lit (.bool false)], args := [d] }
  | _ => none }
def FnDropAllWrongFalsely : Prop := fnDropAllRow.holds Tryz.pinned (OpenSpec.ofChange fnDropAllWrong)

/-- 'laws.FnMakeFolders': WHATEVER THE INPUT: true; the input reads as it did. -/
def fnMakeFoldersSpec : ChangeSpec := { name := "fnMakeFolders", fn := fun _ => fun
  | [d] => { results := [.lit (.bool true)], args := [d] }
  | _ => none }
def fnMakeFoldersRow : OpenClaim := { program := "ytkennmpbmbacpaagreatdoor", sum := "a9ee821617a7a1748137a30a39e8c00f145422947fbfd95eb5cf23759ffad793", func := "loop.example/userspaces/laws.FnMakeFolders", spec := "fnMakeFolders", inPlace := ["internal/bytealg.CountString", "internal/bytealg.IndexByteString", "internal/bytealg.IndexString", "internal/abi.NoEscape", "internal/bytealg.MakeNoZero", "slices.overlaps[string]", "slices.overlaps[int]"], unfollowed := true, recurses := true, named := ["unicode/utf8.first", "unicode/utf8.acceptRanges", "internal/bytealg.MaxLen"], apart := false, laid := [("unicode/utf8.acceptRanges", laid_unicode_utf8_acceptRanges), ("unicode/utf8.first", laid_unicode_utf8_first)] }
def FnMakeFoldersSaid : Prop := fnMakeFoldersRow.holds Tryz.pinned (OpenSpec.ofChange fnMakeFoldersSpec)

/-- ITS FALSE NEIGHBOUR: 'it returns false'. Refute it at one input. -/
def fnMakeFoldersWrong : ChangeSpec := { name := "fnMakeFolders", fn := fun _ => fun
  | [d] => { results := [.lit (.bool false)], args := [d] }
  | _ => none }
def FnMakeFoldersWrongFalsely : Prop := fnMakeFoldersRow.holds Tryz.pinned (OpenSpec.ofChange fnMakeFoldersWrong)

/-- 'laws.FnCopyFile': WHATEVER THE INPUT: true; the input reads as it did. -/
def fnCopyFileSpec : ChangeSpec := { name := "fnCopyFile", fn := fun _ => fun
  | [d] => { results := [.lit (.bool true)], args := [d] }
  | _ => none }
def fnCopyFileRow : OpenClaim := { program := "ytkennmpbmbacpaagreatdoor", sum := "a9ee821617a7a1748137a30a39e8c00f145422947fbfd95eb5cf23759ffad793", func := "loop.example/userspaces/laws.FnCopyFile", spec := "fnCopyFile", inPlace := ["internal/bytealg.CountString", "internal/bytealg.IndexByteString", "internal/bytealg.IndexString", "internal/abi.NoEscape", "internal/bytealg.MakeNoZero", "slices.overlaps[string]", "slices.overlaps[int]"], unfollowed := true, recurses := true, named := ["unicode/utf8.first", "unicode/utf8.acceptRanges", "internal/bytealg.MaxLen"], apart := false, laid := [("unicode/utf8.acceptRanges", laid_unicode_utf8_acceptRanges), ("unicode/utf8.first", laid_unicode_utf8_first)] }
def FnCopyFileSaid : Prop := fnCopyFileRow.holds Tryz.pinned (OpenSpec.ofChange fnCopyFileSpec)

/-- ITS FALSE NEIGHBOUR: 'it returns false'. Refute it at one input. -/
def fnCopyFileWrong : ChangeSpec := { name := "fnCopyFile", fn := fun _ => fun
  | [d] => { results := [.lit (.bool false)], args := [d] }
  | _ => none }
def FnCopyFileWrongFalsely : Prop := fnCopyFileRow.holds Tryz.pinned (OpenSpec.ofChange fnCopyFileWrong)

/-- 'laws.FnMoveName': WHATEVER THE INPUT: true; the input reads as it did. -/
def fnMoveNameSpec : ChangeSpec := { name := "fnMoveName", fn := fun _ => fun
  | [d] => { results := [.lit (.bool true)], args := [d] }
  | _ => none }
def fnMoveNameRow : OpenClaim := { program := "ytkennmpbmbacpaagreatdoor", sum := "a9ee821617a7a1748137a30a39e8c00f145422947fbfd95eb5cf23759ffad793", func := "loop.example/userspaces/laws.FnMoveName", spec := "fnMoveName", inPlace := ["internal/bytealg.CountString", "internal/bytealg.IndexByteString", "internal/bytealg.IndexString", "internal/abi.NoEscape", "internal/bytealg.MakeNoZero", "slices.overlaps[string]", "slices.overlaps[int]"], unfollowed := true, recurses := true, named := ["unicode/utf8.first", "unicode/utf8.acceptRanges", "internal/bytealg.MaxLen"], apart := false, laid := [("unicode/utf8.acceptRanges", laid_unicode_utf8_acceptRanges), ("unicode/utf8.first", laid_unicode_utf8_first)] }
def FnMoveNameSaid : Prop := fnMoveNameRow.holds Tryz.pinned (OpenSpec.ofChange fnMoveNameSpec)

/-- ITS FALSE NEIGHBOUR: 'it returns false'. Refute it at one input. -/
def fnMoveNameWrong : ChangeSpec := { name := "fnMoveName", fn := fun _ => fun
  | [d] => { results := [.lit (.bool false)], args := [d] }
  | _ => none }
def FnMoveNameWrongFalsely : Prop := fnMoveNameRow.holds Tryz.pinned (OpenSpec.ofChange fnMoveNameWrong)

/- THE SECOND FORM. 'bulk': how many values and letters a reading holds, each counted each time it is reached (what is shared counts as often as it is met; a slice's spare places count too). A statement '..UptoSaid' is the law's where the arguments, and the package variables that the reading takes, are together of bulk at most 1048576: NARROWER than '..Said'. Prove '..Said' where nothing that the law and all that it calls make is longer than what came in: it says more and counts as full. Else prove '..UptoSaid'. A law counts once. -/
mutual
def uptoBulk {H : Type} : DataW H → Nat
  | .lit (.string bytes) => bytes.length + 1
  | .lit _ => 1
  | .nil => 1
  | .ptr d => uptoBulk d + 1
  | .slice elems spare => uptoBulkAll elems + uptoBulkAll spare + 1
  | .agg parts => uptoBulkAll parts + 1
  | .iface _ d => uptoBulk d + 1
  | .map entries => uptoBulkEntries entries + 1
  | .held _ => 1
def uptoBulkAll {H : Type} : List (DataW H) → Nat
  | [] => 0
  | d :: r => uptoBulk d + uptoBulkAll r
def uptoBulkEntries {H : Type} : List (Lit × DataW H) → Nat
  | [] => 0
  | x :: r => uptoBulkEntry x + uptoBulkEntries r
def uptoBulkEntry {H : Type} : Lit × DataW H → Nat
  | (.string bytes, d) => bytes.length + uptoBulk d + 1
  | (_, d) => uptoBulk d + 1
 end
def uptoSmall : (H : Type) → List (DataW H) → Bool := fun _ ds => decide (uptoBulkAll ds ≤ 1048576)
def OpenSpec.upto (s : _root_.Go.ChangeSpec) : _root_.Go.OpenSpec := { _root_.Go.OpenSpec.ofChange s with cond := some uptoSmall }

/-- 'laws.FnDropName', WHERE WHAT IT READS IS OF BULK AT MOST 1048576: true; the input reads as it did. -/
def fnDropNameUptoRow : OpenClaim := { program := "ytkennmpbmbacpaagreatdoor", sum := "a9ee821617a7a1748137a30a39e8c00f145422947fbfd95eb5cf23759ffad793", func := "loop.example/userspaces/laws.FnDropName", spec := "fnDropName", inPlace := ["internal/bytealg.CountString", "internal/bytealg.IndexByteString", "internal/bytealg.IndexString", "internal/abi.NoEscape", "internal/bytealg.MakeNoZero"], unfollowed := true, recurses := true, named := ["unicode/utf8.first", "unicode/utf8.acceptRanges", "internal/bytealg.MaxLen"], apart := false, laid := [("unicode/utf8.acceptRanges", laid_unicode_utf8_acceptRanges), ("unicode/utf8.first", laid_unicode_utf8_first)], narrowed := true }
def FnDropNameUptoSaid : Prop := fnDropNameUptoRow.holds Tryz.pinned (OpenSpec.upto fnDropNameSpec)

/-- 'laws.FnMakeNode', WHERE WHAT IT READS IS OF BULK AT MOST 1048576: true; the input reads as it did. -/
def fnMakeNodeUptoRow : OpenClaim := { program := "ytkennmpbmbacpaagreatdoor", sum := "a9ee821617a7a1748137a30a39e8c00f145422947fbfd95eb5cf23759ffad793", func := "loop.example/userspaces/laws.FnMakeNode", spec := "fnMakeNode", inPlace := ["internal/bytealg.CountString", "internal/bytealg.IndexByteString", "internal/bytealg.IndexString", "internal/abi.NoEscape", "internal/bytealg.MakeNoZero", "slices.overlaps[string]", "slices.overlaps[int]"], unfollowed := true, recurses := true, named := ["unicode/utf8.first", "unicode/utf8.acceptRanges", "internal/bytealg.MaxLen"], apart := false, laid := [("unicode/utf8.acceptRanges", laid_unicode_utf8_acceptRanges), ("unicode/utf8.first", laid_unicode_utf8_first)], narrowed := true }
def FnMakeNodeUptoSaid : Prop := fnMakeNodeUptoRow.holds Tryz.pinned (OpenSpec.upto fnMakeNodeSpec)

/-- 'laws.FnLinkName', WHERE WHAT IT READS IS OF BULK AT MOST 1048576: true; the input reads as it did. -/
def fnLinkNameUptoRow : OpenClaim := { program := "ytkennmpbmbacpaagreatdoor", sum := "a9ee821617a7a1748137a30a39e8c00f145422947fbfd95eb5cf23759ffad793", func := "loop.example/userspaces/laws.FnLinkName", spec := "fnLinkName", inPlace := ["internal/bytealg.CountString", "internal/bytealg.IndexByteString", "internal/bytealg.IndexString", "internal/abi.NoEscape", "internal/bytealg.MakeNoZero", "slices.overlaps[string]", "slices.overlaps[int]"], unfollowed := true, recurses := true, named := ["unicode/utf8.first", "unicode/utf8.acceptRanges", "internal/bytealg.MaxLen"], apart := false, laid := [("unicode/utf8.acceptRanges", laid_unicode_utf8_acceptRanges), ("unicode/utf8.first", laid_unicode_utf8_first)], narrowed := true }
def FnLinkNameUptoSaid : Prop := fnLinkNameUptoRow.holds Tryz.pinned (OpenSpec.upto fnLinkNameSpec)

/-- 'laws.FnDropAll', WHERE WHAT IT READS IS OF BULK AT MOST 1048576: true; the input reads as it did. -/
def fnDropAllUptoRow : OpenClaim := { program := "ytkennmpbmbacpaagreatdoor", sum := "a9ee821617a7a1748137a30a39e8c00f145422947fbfd95eb5cf23759ffad793", func := "loop.example/userspaces/laws.FnDropAll", spec := "fnDropAll", inPlace := ["internal/bytealg.CountString", "internal/bytealg.IndexByteString", "internal/bytealg.IndexString", "internal/abi.NoEscape", "internal/bytealg.MakeNoZero"], unfollowed := true, recurses := true, named := ["unicode/utf8.first", "unicode/utf8.acceptRanges", "internal/bytealg.MaxLen"], apart := false, laid := [("unicode/utf8.acceptRanges", laid_unicode_utf8_acceptRanges), ("unicode/utf8.first", laid_unicode_utf8_first)], narrowed := true }
def FnDropAllUptoSaid : Prop := fnDropAllUptoRow.holds Tryz.pinned (OpenSpec.upto fnDropAllSpec)

/-- 'laws.FnMakeFolders', WHERE WHAT IT READS IS OF BULK AT MOST 1048576: true; the input reads as it did. -/
def fnMakeFoldersUptoRow : OpenClaim := { program := "ytkennmpbmbacpaagreatdoor", sum := "a9ee821617a7a1748137a30a39e8c00f145422947fbfd95eb5cf23759ffad793", func := "loop.example/userspaces/laws.FnMakeFolders", spec := "fnMakeFolders", inPlace := ["internal/bytealg.CountString", "internal/bytealg.IndexByteString", "internal/bytealg.IndexString", "internal/abi.NoEscape", "internal/bytealg.MakeNoZero", "slices.overlaps[string]", "slices.overlaps[int]"], unfollowed := true, recurses := true, named := ["unicode/utf8.first", "unicode/utf8.acceptRanges", "internal/bytealg.MaxLen"], apart := false, laid := [("unicode/utf8.acceptRanges", laid_unicode_utf8_acceptRanges), ("unicode/utf8.first", laid_unicode_utf8_first)], narrowed := true }
def FnMakeFoldersUptoSaid : Prop := fnMakeFoldersUptoRow.holds Tryz.pinned (OpenSpec.upto fnMakeFoldersSpec)

/-- 'laws.FnCopyFile', WHERE WHAT IT READS IS OF BULK AT MOST 1048576: true; the input reads as it did. -/
def fnCopyFileUptoRow : OpenClaim := { program := "ytkennmpbmbacpaagreatdoor", sum := "a9ee821617a7a1748137a30a39e8c00f145422947fbfd95eb5cf23759ffad793", func := "loop.example/userspaces/laws.FnCopyFile", spec := "fnCopyFile", inPlace := ["internal/bytealg.CountString", "internal/bytealg.IndexByteString", "internal/bytealg.IndexString", "internal/abi.NoEscape", "internal/bytealg.MakeNoZero", "slices.overlaps[string]", "slices.overlaps[int]"], unfollowed := true, recurses := true, named := ["unicode/utf8.first", "unicode/utf8.acceptRanges", "internal/bytealg.MaxLen"], apart := false, laid := [("unicode/utf8.acceptRanges", laid_unicode_utf8_acceptRanges), ("unicode/utf8.first", laid_unicode_utf8_first)], narrowed := true }
def FnCopyFileUptoSaid : Prop := fnCopyFileUptoRow.holds Tryz.pinned (OpenSpec.upto fnCopyFileSpec)

/-- 'laws.FnMoveName', WHERE WHAT IT READS IS OF BULK AT MOST 1048576: true; the input reads as it did. -/
def fnMoveNameUptoRow : OpenClaim := { program := "ytkennmpbmbacpaagreatdoor", sum := "a9ee821617a7a1748137a30a39e8c00f145422947fbfd95eb5cf23759ffad793", func := "loop.example/userspaces/laws.FnMoveName", spec := "fnMoveName", inPlace := ["internal/bytealg.CountString", "internal/bytealg.IndexByteString", "internal/bytealg.IndexString", "internal/abi.NoEscape", "internal/bytealg.MakeNoZero", "slices.overlaps[string]", "slices.overlaps[int]"], unfollowed := true, recurses := true, named := ["unicode/utf8.first", "unicode/utf8.acceptRanges", "internal/bytealg.MaxLen"], apart := false, laid := [("unicode/utf8.acceptRanges", laid_unicode_utf8_acceptRanges), ("unicode/utf8.first", laid_unicode_utf8_first)], narrowed := true }
def FnMoveNameUptoSaid : Prop := fnMoveNameUptoRow.holds Tryz.pinned (OpenSpec.upto fnMoveNameSpec)

end Rows
end Go.Proofs.YtkennmpbmbacpaaGreatDoor
