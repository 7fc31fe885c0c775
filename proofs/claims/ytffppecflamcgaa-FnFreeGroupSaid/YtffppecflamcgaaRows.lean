/-
  No cell of these rows narrows 'for every input' (looked for: loops, veiled, ifaces, maps, wideKeys, modest, calm, conditions, laid).
  DERIVED. THE GIVEN ROWS OF THIS SEAT. 8 by the template 'for every input the law returns true; each argument reads behind the call as it read before'; 0 by the template 'total and deterministic' (their statements: YtffppecflamcgaaTotals.lean).
  GIVEN WITH THE SEED: the statements are not yours to turn. If you find one false, say at which input.
  Laid BY PROGRAM, IN A SANDBOX (cutbox-rows.mjs): the forced cells as the released guide's own fill.sh prints them over the translation 29577eac5933b24f… (all of the seat's roots in one cut). By AI agents, Wed Nov 11 2026. No macro, syntax, notation, axiom, sorry.
-/
import Derived.Test.YtffppecflamcgaaChecked
import GoSem.Claim
import GoSem.ClaimJoined
import GoSem.ClaimMapViews
import Derived.JoinedTies
import Derived.KernelRfl
namespace Go.Proofs.Ytffppecflamcgaa
/- THE CELL 'sum', in the pinned program and in every row, IS THE sha256 OF THE DUMP (.gsa) THAT YtffppecflamcgaaProg.lean LOADS. Nothing in Lean hashes anything: it is a label: what it is worth is what the hold of that sum in a sandbox is worth. -/
noncomputable def Try.pinned : Pinned := { name := "ytffppecflamcgaa", sum := "29577eac5933b24f71193ad4d1ef79d19a83f0fe5a94a5f0b974d95970ae03f0", checked := Try.checked }
namespace Rows
def none {H : Type} : Left H := { results := [], args := [] }

/-- 'laws.FnExactLimitsValid': WHATEVER THE INPUT: true; the input reads as it did. -/
def fnExactLimitsValidSpec : ChangeSpec := { name := "fnExactLimitsValid", fn := fun _ => fun
  | [d] => { results := [.lit (.bool true)], args := [d] }
  | _ => none }
def fnExactLimitsValidRow : OpenClaim := { program := "ytffppecflamcgaa", sum := "29577eac5933b24f71193ad4d1ef79d19a83f0fe5a94a5f0b974d95970ae03f0", func := "loop.example/userspaces/laws.FnExactLimitsValid", spec := "fnExactLimitsValid", apart := false }
def FnExactLimitsValidSaid : Prop := fnExactLimitsValidRow.holds Try.pinned (OpenSpec.ofChange fnExactLimitsValidSpec)

/-- ITS FALSE NEIGHBOUR: 'it returns false'. Refute it at one input. -/
def fnExactLimitsValidWrong : ChangeSpec := { name := "fnExactLimitsValid", fn := fun _ => fun
  | [d] => { results := [.lit (.bool false)], args := [d] }
  | _ => none }
def FnExactLimitsValidWrongFalsely : Prop := fnExactLimitsValidRow.holds Try.pinned (OpenSpec.ofChange fnExactLimitsValidWrong)

/-- 'laws.FnExactRoomFor': WHATEVER THE INPUT: true; the input reads as it did. -/
def fnExactRoomForSpec : ChangeSpec := { name := "fnExactRoomFor", fn := fun _ => fun
  | [d1, d2] => { results := [.lit (.bool true)], args := [d1, d2] }
  | _ => none }
def fnExactRoomForRow : OpenClaim := { program := "ytffppecflamcgaa", sum := "29577eac5933b24f71193ad4d1ef79d19a83f0fe5a94a5f0b974d95970ae03f0", func := "loop.example/userspaces/laws.FnExactRoomFor", spec := "fnExactRoomFor", apart := false }
def FnExactRoomForSaid : Prop := fnExactRoomForRow.holds Try.pinned (OpenSpec.ofChange fnExactRoomForSpec)

/-- ITS FALSE NEIGHBOUR: 'it returns false'. Refute it at one input. -/
def fnExactRoomForWrong : ChangeSpec := { name := "fnExactRoomFor", fn := fun _ => fun
  | [d1, d2] => { results := [.lit (.bool false)], args := [d1, d2] }
  | _ => none }
def FnExactRoomForWrongFalsely : Prop := fnExactRoomForRow.holds Try.pinned (OpenSpec.ofChange fnExactRoomForWrong)

/-- 'laws.FnLimitsValid': WHATEVER THE INPUT: true; the input reads as it did. -/
def fnLimitsValidSpec : ChangeSpec := { name := "fnLimitsValid", fn := fun _ => fun
  | [d] => { results := [.lit (.bool true)], args := [d] }
  | _ => none }
def fnLimitsValidRow : OpenClaim := { program := "ytffppecflamcgaa", sum := "29577eac5933b24f71193ad4d1ef79d19a83f0fe5a94a5f0b974d95970ae03f0", func := "loop.example/userspaces/laws.FnLimitsValid", spec := "fnLimitsValid", apart := false }
def FnLimitsValidSaid : Prop := fnLimitsValidRow.holds Try.pinned (OpenSpec.ofChange fnLimitsValidSpec)

/-- ITS FALSE NEIGHBOUR: 'it returns false'. Refute it at one input. -/
def fnLimitsValidWrong : ChangeSpec := { name := "fnLimitsValid", fn := fun _ => fun
  | [d] => { results := [.lit (.bool false)], args := [d] }
  | _ => none }
def FnLimitsValidWrongFalsely : Prop := fnLimitsValidRow.holds Try.pinned (OpenSpec.ofChange fnLimitsValidWrong)

/-- 'laws.FnRoomFor': WHATEVER THE INPUT: true; the input reads as it did. -/
def fnRoomForSpec : ChangeSpec := { name := "fnRoomFor", fn := fun _ => fun
  | [d] => { results := [.lit (.bool true)], args := [d] }
  | _ => none }
def fnRoomForRow : OpenClaim := { program := "ytffppecflamcgaa", sum := "29577eac5933b24f71193ad4d1ef79d19a83f0fe5a94a5f0b974d95970ae03f0", func := "loop.example/userspaces/laws.FnRoomFor", spec := "fnRoomFor", apart := false }
def FnRoomForSaid : Prop := fnRoomForRow.holds Try.pinned (OpenSpec.ofChange fnRoomForSpec)

/-- ITS FALSE NEIGHBOUR: 'it returns false'. Refute it at one input. -/
def fnRoomForWrong : ChangeSpec := { name := "fnRoomFor", fn := fun _ => fun
  | [d] => { results := [.lit (.bool false)], args := [d] }
  | _ => none }
def FnRoomForWrongFalsely : Prop := fnRoomForRow.holds Try.pinned (OpenSpec.ofChange fnRoomForWrong)

/-- 'laws.FnExactFreeGroup': WHATEVER THE INPUT: true; the input reads as it did. -/
def fnExactFreeGroupSpec : ChangeSpec := { name := "fnExactFreeGroup", fn := fun _ => fun
  | [d1, d2, d3] => { results := [.lit (.bool true)], args := [d1, d2, d3] }
  | _ => none }
def fnExactFreeGroupRow : OpenClaim := { program := "ytffppecflamcgaa", sum := "29577eac5933b24f71193ad4d1ef79d19a83f0fe5a94a5f0b974d95970ae03f0", func := "loop.example/userspaces/laws.FnExactFreeGroup", spec := "fnExactFreeGroup", apart := false }
def FnExactFreeGroupSaid : Prop := fnExactFreeGroupRow.holds Try.pinned (OpenSpec.ofChange fnExactFreeGroupSpec)

/-- ITS FALSE NEIGHBOUR: 'it returns false'. Refute it at one input. -/
def fnExactFreeGroupWrong : ChangeSpec := { name := "fnExactFreeGroup", fn := fun _ => fun
  | [d1, d2, d3] => { results := [.lit (.bool false)], args := [d1, d2, d3] }
  | _ => none }
def FnExactFreeGroupWrongFalsely : Prop := fnExactFreeGroupRow.holds Try.pinned (OpenSpec.ofChange fnExactFreeGroupWrong)

/-- 'laws.FnExactChargeGroup': WHATEVER THE INPUT: true; the input reads as it did. -/
def fnExactChargeGroupSpec : ChangeSpec := { name := "fnExactChargeGroup", fn := fun _ => fun
  | [d1, d2, d3] => { results := [.lit (.bool true)], args := [d1, d2, d3] }
  | _ => none }
def fnExactChargeGroupRow : OpenClaim := { program := "ytffppecflamcgaa", sum := "29577eac5933b24f71193ad4d1ef79d19a83f0fe5a94a5f0b974d95970ae03f0", func := "loop.example/userspaces/laws.FnExactChargeGroup", spec := "fnExactChargeGroup", apart := false }
def FnExactChargeGroupSaid : Prop := fnExactChargeGroupRow.holds Try.pinned (OpenSpec.ofChange fnExactChargeGroupSpec)

/-- ITS FALSE NEIGHBOUR: 'it returns false'. Refute it at one input. -/
def fnExactChargeGroupWrong : ChangeSpec := { name := "fnExactChargeGroup", fn := fun _ => fun
  | [d1, d2, d3] => { results := [.lit (.bool false)], args := [d1, d2, d3] }
  | _ => none }
def FnExactChargeGroupWrongFalsely : Prop := fnExactChargeGroupRow.holds Try.pinned (OpenSpec.ofChange fnExactChargeGroupWrong)

/-- 'laws.FnChargeGroup': WHATEVER THE INPUT: true; the input reads as it did. -/
def fnChargeGroupSpec : ChangeSpec := { name := "fnChargeGroup", fn := fun _ => fun
  | [d] => { results := [.lit (.bool true)], args := [d] }
  | _ => none }
def fnChargeGroupRow : OpenClaim := { program := "ytffppecflamcgaa", sum := "29577eac5933b24f71193ad4d1ef79d19a83f0fe5a94a5f0b974d95970ae03f0", func := "loop.example/userspaces/laws.FnChargeGroup", spec := "fnChargeGroup", apart := false }
def FnChargeGroupSaid : Prop := fnChargeGroupRow.holds Try.pinned (OpenSpec.ofChange fnChargeGroupSpec)

/-- ITS FALSE NEIGHBOUR: 'it returns false'. Refute it at one input. -/
def fnChargeGroupWrong : ChangeSpec := { name := "fnChargeGroup", fn := fun _ => fun
  | [d] => { results := [.lit (.bool false)], args := [d] }
  | _ => none }
def FnChargeGroupWrongFalsely : Prop := fnChargeGroupRow.holds Try.pinned (OpenSpec.ofChange fnChargeGroupWrong)

/-- 'laws.FnFreeGroup': WHATEVER THE INPUT: true; the input reads as it did. -/
def fnFreeGroupSpec : ChangeSpec := { name := "fnFreeGroup", fn := fun _ => fun
  | [d] => { results := [.lit (.bool true)], args := [d] }
  | _ => none }
def fnFreeGroupRow : OpenClaim := { program := "ytffppecflamcgaa", sum := "29577eac5933b24f71193ad4d1ef79d19a83f0fe5a94a5f0b974d95970ae03f0", func := "loop.example/userspaces/laws.FnFreeGroup", spec := "fnFreeGroup", apart := false }
def FnFreeGroupSaid : Prop := fnFreeGroupRow.holds Try.pinned (OpenSpec.ofChange fnFreeGroupSpec)

/-- ITS FALSE NEIGHBOUR: 'it returns false'. Refute it at one input. -/
def fnFreeGroupWrong : ChangeSpec := { name := "fnFreeGroup", fn := fun _ => fun
  | [d] => { results := [.lit (.bool false)], args := [d] }
  | _ => none }
def FnFreeGroupWrongFalsely : Prop := fnFreeGroupRow.holds Try.pinned (OpenSpec.ofChange fnFreeGroupWrong)

/- THE SECOND FORM. 'bulk': how many values and letters a reading holds, each counted each time it is reached (what is shared counts as often as it is met; a slice's spare places count too). A statement '..UptoSaid' is the law's where the arguments, and the package variables that the reading takes, are together of bulk at most 1048576: NARROWER than '..Said'. Prove '..Said' where nothing that the law and all that it calls make is longer than what came in: it says more and counts as full. Else prove '..UptoSaid'. A law counts once. -/
mutual
def uptoBulk {H : Type} : DataW H → Nat
  | .lit (.string bytes) => bytes.length + 1
  | .lit _ => 1
  | .nil => 1
  | .ptr d => uptoBulk d + 1
  | .slice elems spare => uptoBulkAll elems + uptoBulkAll spare + 1
  | .agg parts => uptoBulkAll parts + 1
  | .iface _ d => uptoBulk d + 1
  | .map entries => uptoBulkEntries entries + 1
  | .held _ => 1
def uptoBulkAll {H : Type} : List (DataW H) → Nat
  | [] => 0
  | d :: r => uptoBulk d + uptoBulkAll r
def uptoBulkEntries {H : Type} : List (Lit × DataW H) → Nat
  | [] => 0
  | x :: r => uptoBulkEntry x + uptoBulkEntries r
def uptoBulkEntry {H : Type} : Lit × DataW H → Nat
  | (.string bytes, d) => bytes.length + uptoBulk d + 1
  | (_, d) => uptoBulk d + 1
 end
def uptoSmall : (H : Type) → List (DataW H) → Bool := fun _ ds => decide (uptoBulkAll ds ≤ 1048576)
def OpenSpec.upto (s : _root_.Go.ChangeSpec) : _root_.Go.OpenSpec := { _root_.Go.OpenSpec.ofChange s with cond := some uptoSmall }

/-- 'laws.FnExactLimitsValid', WHERE WHAT IT READS IS OF BULK AT MOST 1048576: true; the input reads as it did. -/
def fnExactLimitsValidUptoRow : OpenClaim := { program := "ytffppecflamcgaa", sum := "29577eac5933b24f71193ad4d1ef79d19a83f0fe5a94a5f0b974d95970ae03f0", func := "loop.example/userspaces/laws.FnExactLimitsValid", spec := "fnExactLimitsValid", apart := false, narrowed := true }
def FnExactLimitsValidUptoSaid : Prop := fnExactLimitsValidUptoRow.holds Try.pinned (OpenSpec.upto fnExactLimitsValidSpec)

/-- 'laws.FnExactRoomFor', WHERE WHAT IT READS IS OF BULK AT MOST 1048576: true; the input reads as it did. -/
def fnExactRoomForUptoRow : OpenClaim := { program := "ytffppecflamcgaa", sum := "29577eac5933b24f71193ad4d1ef79d19a83f0fe5a94a5f0b974d95970ae03f0", func := "loop.example/userspaces/laws.FnExactRoomFor", spec := "fnExactRoomFor", apart := false, narrowed := true }
def FnExactRoomForUptoSaid : Prop := fnExactRoomForUptoRow.holds Try.pinned (OpenSpec.upto fnExactRoomForSpec)

/-- 'laws.FnLimitsValid', WHERE WHAT IT READS IS OF BULK AT MOST 1048576: true; the input reads as it did. -/
def fnLimitsValidUptoRow : OpenClaim := { program := "ytffppecflamcgaa", sum := "29577eac5933b24f71193ad4d1ef79d19a83f0fe5a94a5f0b974d95970ae03f0", func := "loop.example/userspaces/laws.FnLimitsValid", spec := "fnLimitsValid", apart := false, narrowed := true }
def FnLimitsValidUptoSaid : Prop := fnLimitsValidUptoRow.holds Try.pinned (OpenSpec.upto fnLimitsValidSpec)

/-- 'laws.FnRoomFor', WHERE WHAT IT READS IS OF BULK AT MOST 1048576: true; the input reads as it did. -/
def fnRoomForUptoRow : OpenClaim := { program := "ytffppecflamcgaa", sum := "29577eac5933b24f71193ad4d1ef79d19a83f0fe5a94a5f0b974d95970ae03f0", func := "loop.example/userspaces/laws.FnRoomFor", spec := "fnRoomFor", apart := false, narrowed := true }
def FnRoomForUptoSaid : Prop := fnRoomForUptoRow.holds Try.pinned (OpenSpec.upto fnRoomForSpec)

/-- 'laws.FnExactFreeGroup', WHERE WHAT IT READS IS OF BULK AT MOST 1048576: true; the input reads as it did. -/
def fnExactFreeGroupUptoRow : OpenClaim := { program := "ytffppecflamcgaa", sum := "29577eac5933b24f71193ad4d1ef79d19a83f0fe5a94a5f0b974d95970ae03f0", func := "loop.example/userspaces/laws.FnExactFreeGroup", spec := "fnExactFreeGroup", apart := false, narrowed := true }
def FnExactFreeGroupUptoSaid : Prop := fnExactFreeGroupUptoRow.holds Try.pinned (OpenSpec.upto fnExactFreeGroupSpec)

/-- 'laws.FnExactChargeGroup', WHERE WHAT IT READS IS OF BULK AT MOST 1048576: true; the input reads as it did. -/
def fnExactChargeGroupUptoRow : OpenClaim := { program := "ytffppecflamcgaa", sum := "29577eac5933b24f71193ad4d1ef79d19a83f0fe5a94a5f0b974d95970ae03f0", func := "loop.example/userspaces/laws.FnExactChargeGroup", spec := "fnExactChargeGroup", apart := false, narrowed := true }
def FnExactChargeGroupUptoSaid : Prop := fnExactChargeGroupUptoRow.holds Try.pinned (OpenSpec.upto fnExactChargeGroupSpec)

/-- 'laws.FnChargeGroup', WHERE WHAT IT READS IS OF BULK AT MOST 1048576: true; the input reads as it did. -/
def fnChargeGroupUptoRow : OpenClaim := { program := "ytffppecflamcgaa", sum := "29577eac5933b24f71193ad4d1ef79d19a83f0fe5a94a5f0b974d95970ae03f0", func := "loop.example/userspaces/laws.FnChargeGroup", spec := "fnChargeGroup", apart := false, narrowed := true }
def FnChargeGroupUptoSaid : Prop := fnChargeGroupUptoRow.holds Try.pinned (OpenSpec.upto fnChargeGroupSpec)

/-- 'laws.FnFreeGroup', WHERE WHAT IT READS IS OF BULK AT MOST 1048576: true; the input reads as it did. -/
def fnFreeGroupUptoRow : OpenClaim := { program := "ytffppecflamcgaa", sum := "29577eac5933b24f71193ad4d1ef79d19a83f0fe5a94a5f0b974d95970ae03f0", func := "loop.example/userspaces/laws.FnFreeGroup", spec := "fnFreeGroup", apart := false, narrowed := true }
def FnFreeGroupUptoSaid : Prop := fnFreeGroupUptoRow.holds Try.pinned (OpenSpec.upto fnFreeGroupSpec)

end Rows
end Go.Proofs.Ytffppecflamcgaa
