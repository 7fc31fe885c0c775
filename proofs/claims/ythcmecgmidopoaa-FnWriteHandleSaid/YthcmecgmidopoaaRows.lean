/-
  No cell of these rows narrows 'for every input' (looked for: loops, veiled, ifaces, maps, wideKeys, modest, calm, conditions, laid).
  DERIVED. THE GIVEN ROWS OF THIS SEAT. 8 by the template 'for every input the law returns true; each argument reads behind the call as it read before'; 0 by the template 'total and deterministic' (their statements: YthcmecgmidopoaaTotals.lean).
  GIVEN WITH THE SEED: the statements are not yours to turn. If you find one false, say at which input.
  Laid BY PROGRAM, IN A SANDBOX (cutbox-rows.mjs): the forced cells as the released guide's own fill.sh prints them over the translation 6121bf94b7c29b87… (all of the seat's roots in one cut). By AI agents, Wed Nov 11 2026. No macro, syntax, notation, axiom, sorry.
-/
import Derived.Test.YthcmecgmidopoaaChecked
import GoSem.Claim
import GoSem.ClaimJoined
import GoSem.ClaimMapViews
import Derived.JoinedTies
import Derived.KernelRfl
namespace Go.Proofs.Ythcmecgmidopoaa
/- THE CELL 'sum', in the pinned program and in every row, IS THE sha256 OF THE DUMP (.gsa) THAT YthcmecgmidopoaaProg.lean LOADS. Nothing in Lean hashes anything: it is a label: what it is worth is what the hold of that sum in a sandbox is worth. -/
noncomputable def Try.pinned : Pinned := { name := "ythcmecgmidopoaa", sum := "6121bf94b7c29b8764241927138816305f2ddd4e2e7448e987ece06950768503", checked := Try.checked }
namespace Rows
def none {H : Type} : Left H := { results := [], args := [] }

/-- 'laws.FnTreeValid': WHATEVER THE INPUT: true; the input reads as it did. -/
def fnTreeValidSpec : ChangeSpec := { name := "fnTreeValid", fn := fun _ => fun
  | [d] => { results := [.lit (.bool true)], args := [d] }
  | _ => none }
def fnTreeValidRow : OpenClaim := { program := "ythcmecgmidopoaa", sum := "6121bf94b7c29b8764241927138816305f2ddd4e2e7448e987ece06950768503", func := "loop.example/userspaces/laws.FnTreeValid", spec := "fnTreeValid", recurses := true, apart := false }
def FnTreeValidSaid : Prop := fnTreeValidRow.holds Try.pinned (OpenSpec.ofChange fnTreeValidSpec)

/-- ITS FALSE NEIGHBOUR: 'it returns false'. Refute it at one input. -/
def fnTreeValidWrong : ChangeSpec := { name := "fnTreeValid", fn := fun _ => fun
  | [d] => { results := [.lit (.bool false)], args := [d] }
  | _ => none }
def FnTreeValidWrongFalsely : Prop := fnTreeValidRow.holds Try.pinned (OpenSpec.ofChange fnTreeValidWrong)

/-- 'laws.FnLinksOf': WHATEVER THE INPUT: true; the input reads as it did. -/
def fnLinksOfSpec : ChangeSpec := { name := "fnLinksOf", fn := fun _ => fun
  | [d] => { results := [.lit (.bool true)], args := [d] }
  | _ => none }
def fnLinksOfRow : OpenClaim := { program := "ythcmecgmidopoaa", sum := "6121bf94b7c29b8764241927138816305f2ddd4e2e7448e987ece06950768503", func := "loop.example/userspaces/laws.FnLinksOf", spec := "fnLinksOf", recurses := true, apart := false }
def FnLinksOfSaid : Prop := fnLinksOfRow.holds Try.pinned (OpenSpec.ofChange fnLinksOfSpec)

/-- ITS FALSE NEIGHBOUR: 'it returns false'. Refute it at one input. -/
def fnLinksOfWrong : ChangeSpec := { name := "fnLinksOf", fn := fun _ => fun
  | [d] => { results := [.lit (.bool false)], args := [d] }
  | _ => none }
def FnLinksOfWrongFalsely : Prop := fnLinksOfRow.holds Try.pinned (OpenSpec.ofChange fnLinksOfWrong)

/-- 'laws.FnOwnedNodes': WHATEVER THE INPUT: true; the input reads as it did. -/
def fnOwnedNodesSpec : ChangeSpec := { name := "fnOwnedNodes", fn := fun _ => fun
  | [d] => { results := [.lit (.bool true)], args := [d] }
  | _ => none }
def fnOwnedNodesRow : OpenClaim := { program := "ythcmecgmidopoaa", sum := "6121bf94b7c29b8764241927138816305f2ddd4e2e7448e987ece06950768503", func := "loop.example/userspaces/laws.FnOwnedNodes", spec := "fnOwnedNodes", recurses := true, apart := false }
def FnOwnedNodesSaid : Prop := fnOwnedNodesRow.holds Try.pinned (OpenSpec.ofChange fnOwnedNodesSpec)

/-- ITS FALSE NEIGHBOUR: 'it returns false'. Refute it at one input. -/
def fnOwnedNodesWrong : ChangeSpec := { name := "fnOwnedNodes", fn := fun _ => fun
  | [d] => { results := [.lit (.bool false)], args := [d] }
  | _ => none }
def FnOwnedNodesWrongFalsely : Prop := fnOwnedNodesRow.holds Try.pinned (OpenSpec.ofChange fnOwnedNodesWrong)

/-- 'laws.FnUsageOf': WHATEVER THE INPUT: true; the input reads as it did. -/
def fnUsageOfSpec : ChangeSpec := { name := "fnUsageOf", fn := fun _ => fun
  | [d] => { results := [.lit (.bool true)], args := [d] }
  | _ => none }
def fnUsageOfRow : OpenClaim := { program := "ythcmecgmidopoaa", sum := "6121bf94b7c29b8764241927138816305f2ddd4e2e7448e987ece06950768503", func := "loop.example/userspaces/laws.FnUsageOf", spec := "fnUsageOf", recurses := true, apart := false }
def FnUsageOfSaid : Prop := fnUsageOfRow.holds Try.pinned (OpenSpec.ofChange fnUsageOfSpec)

/-- ITS FALSE NEIGHBOUR: 'it returns false'. Refute it at one input. -/
def fnUsageOfWrong : ChangeSpec := { name := "fnUsageOf", fn := fun _ => fun
  | [d] => { results := [.lit (.bool false)], args := [d] }
  | _ => none }
def FnUsageOfWrongFalsely : Prop := fnUsageOfRow.holds Try.pinned (OpenSpec.ofChange fnUsageOfWrong)

/-- 'laws.FnReadHandle': WHATEVER THE INPUT: true; the input reads as it did. -/
def fnReadHandleSpec : ChangeSpec := { name := "fnReadHandle", fn := fun _ => fun
  | [d] => { results := [.lit (.bool true)], args := [d] }
  | _ => none }
def fnReadHandleRow : OpenClaim := { program := "ythcmecgmidopoaa", sum := "6121bf94b7c29b8764241927138816305f2ddd4e2e7448e987ece06950768503", func := "loop.example/userspaces/laws.FnReadHandle", spec := "fnReadHandle", recurses := true, apart := false }
def FnReadHandleSaid : Prop := fnReadHandleRow.holds Try.pinned (OpenSpec.ofChange fnReadHandleSpec)

/-- ITS FALSE NEIGHBOUR: 'it returns false'. Refute it at one input. -/
def fnReadHandleWrong : ChangeSpec := { name := "fnReadHandle", fn := fun _ => fun
  | [d] => { results := [.lit (.bool false)], args := [d] }
  | _ => none }
def FnReadHandleWrongFalsely : Prop := fnReadHandleRow.holds Try.pinned (OpenSpec.ofChange fnReadHandleWrong)

/-- 'laws.FnOverQuota': WHATEVER THE INPUT: true; the input reads as it did. -/
def fnOverQuotaSpec : ChangeSpec := { name := "fnOverQuota", fn := fun _ => fun
  | [d] => { results := [.lit (.bool true)], args := [d] }
  | _ => none }
def fnOverQuotaRow : OpenClaim := { program := "ythcmecgmidopoaa", sum := "6121bf94b7c29b8764241927138816305f2ddd4e2e7448e987ece06950768503", func := "loop.example/userspaces/laws.FnOverQuota", spec := "fnOverQuota", recurses := true, apart := false }
def FnOverQuotaSaid : Prop := fnOverQuotaRow.holds Try.pinned (OpenSpec.ofChange fnOverQuotaSpec)

/-- ITS FALSE NEIGHBOUR: 'it returns false'. Refute it at one input. -/
def fnOverQuotaWrong : ChangeSpec := { name := "fnOverQuota", fn := fun _ => fun
  | [d] => { results := [.lit (.bool false)], args := [d] }
  | _ => none }
def FnOverQuotaWrongFalsely : Prop := fnOverQuotaRow.holds Try.pinned (OpenSpec.ofChange fnOverQuotaWrong)

/-- 'laws.FnWriteHandle': WHATEVER THE INPUT: true; the input reads as it did. -/
def fnWriteHandleSpec : ChangeSpec := { name := "fnWriteHandle", fn := fun _ => fun
  | [d] => { results := [.lit (.bool true)], args := [d] }
  | _ => none }
def fnWriteHandleRow : OpenClaim := { program := "ythcmecgmidopoaa", sum := "6121bf94b7c29b8764241927138816305f2ddd4e2e7448e987ece06950768503", func := "loop.example/userspaces/laws.FnWriteHandle", spec := "fnWriteHandle", recurses := true, apart := false }
def FnWriteHandleSaid : Prop := fnWriteHandleRow.holds Try.pinned (OpenSpec.ofChange fnWriteHandleSpec)

/-- ITS FALSE NEIGHBOUR: 'it returns false'. Refute it at one input. -/
def fnWriteHandleWrong : ChangeSpec := { name := "fnWriteHandle", fn := fun _ => fun
  | [d] => { results := [.lit (.bool false)], args := [d] }
  | _ => none }
def FnWriteHandleWrongFalsely : Prop := fnWriteHandleRow.holds Try.pinned (OpenSpec.ofChange fnWriteHandleWrong)

/-- 'laws.FnQuotaAllows': WHATEVER THE INPUT: true; the input reads as it did. -/
def fnQuotaAllowsSpec : ChangeSpec := { name := "fnQuotaAllows", fn := fun _ => fun
  | [d] => { results := [.lit (.bool true)], args := [d] }
  | _ => none }
def fnQuotaAllowsRow : OpenClaim := { program := "ythcmecgmidopoaa", sum := "6121bf94b7c29b8764241927138816305f2ddd4e2e7448e987ece06950768503", func := "loop.example/userspaces/laws.FnQuotaAllows", spec := "fnQuotaAllows", recurses := true, apart := false }
def FnQuotaAllowsSaid : Prop := fnQuotaAllowsRow.holds Try.pinned (OpenSpec.ofChange fnQuotaAllowsSpec)

/-- ITS FALSE NEIGHBOUR: 'it returns false'. Refute it at one input. -/
def fnQuotaAllowsWrong : ChangeSpec := { name := "fnQuotaAllows", fn := fun _ => fun
  | [d] => { results := [.lit (.bool false)], args := [d] }
  | _ => none }
def FnQuotaAllowsWrongFalsely : Prop := fnQuotaAllowsRow.holds Try.pinned (OpenSpec.ofChange fnQuotaAllowsWrong)

/- THE SECOND FORM. 'bulk': how many values and letters a reading holds, each counted each time it is reached (what is shared counts as often as it is met; a slice's spare places count too). A statement '..UptoSaid' is the law's where the arguments, and the package variables that the reading takes, are together of bulk at most 1048576: NARROWER than '..Said'. Prove '..Said' where nothing that the law and all that it calls make is longer than what came in: it says more and counts as full. Else prove '..UptoSaid'. A law counts once. -/
mutual
def uptoBulk {H : Type} : DataW H → Nat
  | .lit (.string bytes) => bytes.length + 1
  | .lit _ => 1
  | .nil => 1
  | .ptr d => uptoBulk d + 1
  | .slice elems spare => uptoBulkAll elems + uptoBulkAll spare + 1
  | .agg parts => uptoBulkAll parts + 1
  | .iface _ d => uptoBulk d + 1
  | .map entries => uptoBulkEntries entries + 1
  | .held _ => 1
def uptoBulkAll {H : Type} : List (DataW H) → Nat
  | [] => 0
  | d :: r => uptoBulk d + uptoBulkAll r
def uptoBulkEntries {H : Type} : List (Lit × DataW H) → Nat
  | [] => 0
  | x :: r => uptoBulkEntry x + uptoBulkEntries r
def uptoBulkEntry {H : Type} : Lit × DataW H → Nat
  | (.string bytes, d) => bytes.length + uptoBulk d + 1
  | (_, d) => uptoBulk d + 1
 end
def uptoSmall : (H : Type) → List (DataW H) → Bool := fun _ ds => decide (uptoBulkAll ds ≤ 1048576)
def OpenSpec.upto (s : _root_.Go.ChangeSpec) : _root_.Go.OpenSpec := { _root_.Go.OpenSpec.ofChange s with cond := some uptoSmall }

/-- 'laws.FnTreeValid', WHERE WHAT IT READS IS OF BULK AT MOST 1048576: true; the input reads as it did. -/
def fnTreeValidUptoRow : OpenClaim := { program := "ythcmecgmidopoaa", sum := "6121bf94b7c29b8764241927138816305f2ddd4e2e7448e987ece06950768503", func := "loop.example/userspaces/laws.FnTreeValid", spec := "fnTreeValid", recurses := true, apart := false, narrowed := true }
def FnTreeValidUptoSaid : Prop := fnTreeValidUptoRow.holds Try.pinned (OpenSpec.upto fnTreeValidSpec)

/-- 'laws.FnLinksOf', WHERE WHAT IT READS IS OF BULK AT MOST 1048576: true; the input reads as it did. -/
def fnLinksOfUptoRow : OpenClaim := { program := "ythcmecgmidopoaa", sum := "6121bf94b7c29b8764241927138816305f2ddd4e2e7448e987ece06950768503", func := "loop.example/userspaces/laws.FnLinksOf", spec := "fnLinksOf", recurses := true, apart := false, narrowed := true }
def FnLinksOfUptoSaid : Prop := fnLinksOfUptoRow.holds Try.pinned (OpenSpec.upto fnLinksOfSpec)

/-- 'laws.FnOwnedNodes', WHERE WHAT IT READS IS OF BULK AT MOST 1048576: true; the input reads as it did. -/
def fnOwnedNodesUptoRow : OpenClaim := { program := "ythcmecgmidopoaa", sum := "6121bf94b7c29b8764241927138816305f2ddd4e2e7448e987ece06950768503", func := "loop.example/userspaces/laws.FnOwnedNodes", spec := "fnOwnedNodes", recurses := true, apart := false, narrowed := true }
def FnOwnedNodesUptoSaid : Prop := fnOwnedNodesUptoRow.holds Try.pinned (OpenSpec.upto fnOwnedNodesSpec)

/-- 'laws.FnUsageOf', WHERE WHAT IT READS IS OF BULK AT MOST 1048576: true; the input reads as it did. -/
def fnUsageOfUptoRow : OpenClaim := { program := "ythcmecgmidopoaa", sum := "6121bf94b7c29b8764241927138816305f2ddd4e2e7448e987ece06950768503", func := "loop.example/userspaces/laws.FnUsageOf", spec := "fnUsageOf", recurses := true, apart := false, narrowed := true }
def FnUsageOfUptoSaid : Prop := fnUsageOfUptoRow.holds Try.pinned (OpenSpec.upto fnUsageOfSpec)

/-- 'laws.FnReadHandle', WHERE WHAT IT READS IS OF BULK AT MOST 1048576: true; the input reads as it did. -/
def fnReadHandleUptoRow : OpenClaim := { program := "ythcmecgmidopoaa", sum := "6121bf94b7c29b8764241927138816305f2ddd4e2e7448e987ece06950768503", func := "loop.example/userspaces/laws.FnReadHandle", spec := "fnReadHandle", recurses := true, apart := false, narrowed := true }
def FnReadHandleUptoSaid : Prop := fnReadHandleUptoRow.holds Try.pinned (OpenSpec.upto fnReadHandleSpec)

/-- 'laws.FnOverQuota', WHERE WHAT IT READS IS OF BULK AT MOST 1048576: true; the input reads as it did. -/
def fnOverQuotaUptoRow : OpenClaim := { program := "ythcmecgmidopoaa", sum := "6121bf94b7c29b8764241927138816305f2ddd4e2e7448e987ece06950768503", func := "loop.example/userspaces/laws.FnOverQuota", spec := "fnOverQuota", recurses := true, apart := false, narrowed := true }
def FnOverQuotaUptoSaid : Prop := fnOverQuotaUptoRow.holds Try.pinned (OpenSpec.upto fnOverQuotaSpec)

/-- 'laws.FnWriteHandle', WHERE WHAT IT READS IS OF BULK AT MOST 1048576: true; the input reads as it did. -/
def fnWriteHandleUptoRow : OpenClaim := { program := "ythcmecgmidopoaa", sum := "6121bf94b7c29b8764241927138816305f2ddd4e2e7448e987ece06950768503", func := "loop.example/userspaces/laws.FnWriteHandle", spec := "fnWriteHandle", recurses := true, apart := false, narrowed := true }
def FnWriteHandleUptoSaid : Prop := fnWriteHandleUptoRow.holds Try.pinned (OpenSpec.upto fnWriteHandleSpec)

/-- 'laws.FnQuotaAllows', WHERE WHAT IT READS IS OF BULK AT MOST 1048576: true; the input reads as it did. -/
def fnQuotaAllowsUptoRow : OpenClaim := { program := "ythcmecgmidopoaa", sum := "6121bf94b7c29b8764241927138816305f2ddd4e2e7448e987ece06950768503", func := "loop.example/userspaces/laws.FnQuotaAllows", spec := "fnQuotaAllows", recurses := true, apart := false, narrowed := true }
def FnQuotaAllowsUptoSaid : Prop := fnQuotaAllowsUptoRow.holds Try.pinned (OpenSpec.upto fnQuotaAllowsSpec)

end Rows
end Go.Proofs.Ythcmecgmidopoaa
