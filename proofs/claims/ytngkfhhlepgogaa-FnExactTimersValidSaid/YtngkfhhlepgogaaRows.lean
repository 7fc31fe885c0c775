/-
  No cell of these rows narrows 'for every input' (looked for: loops, veiled, ifaces, maps, wideKeys, modest, calm, conditions, laid).
  DERIVED. THE GIVEN ROWS OF THIS SEAT. 9 by the template 'for every input the law returns true; each argument reads behind the call as it read before'; 0 by the template 'total and deterministic' (their statements: YtngkfhhlepgogaaTotals.lean).
  GIVEN WITH THE SEED: the statements are not yours to turn. If you find one false, say at which input.
  Laid BY PROGRAM, IN A SANDBOX (cutbox-rows.mjs): the forced cells as the released guide's own fill.sh prints them over the translation 09fccfdaaff6eb1a… (all of the seat's roots in one cut). By AI agents, Wed Nov 11 2026. No macro, syntax, notation, axiom, sorry.
-/
import Derived.Test.YtngkfhhlepgogaaChecked
import GoSem.Claim
import GoSem.ClaimJoined
import GoSem.ClaimMapViews
import Derived.JoinedTies
import Derived.KernelRfl
namespace Go.Proofs.Ytngkfhhlepgogaa
/- THE CELL 'sum', in the pinned program and in every row, IS THE sha256 OF THE DUMP (.gsa) THAT YtngkfhhlepgogaaProg.lean LOADS. Nothing in Lean hashes anything: it is a label: what it is worth is what the hold of that sum in a sandbox is worth. -/
noncomputable def Try.pinned : Pinned := { name := "ytngkfhhlepgogaa", sum := "09fccfdaaff6eb1a0af70eb21c05939442372ae8c4056aac8bf9969209c2450a", checked := Try.checked }
namespace Rows
def none {H : Type} : Left H := { results := [], args := [] }

/-- 'laws.FnExactDropPowers': WHATEVER THE INPUT: true; the input reads as it did. -/
def fnExactDropPowersSpec : ChangeSpec := { name := "fnExactDropPowers", fn := fun _ => fun
  | [d1, d2] => { results := [.lit (.bool true)], args := [d1, d2] }
  | _ => none }
def fnExactDropPowersRow : OpenClaim := { program := "ytngkfhhlepgogaa", sum := "09fccfdaaff6eb1a0af70eb21c05939442372ae8c4056aac8bf9969209c2450a", func := "loop.example/userspaces/laws.FnExactDropPowers", spec := "fnExactDropPowers", apart := false }
def FnExactDropPowersSaid : Prop := fnExactDropPowersRow.holds Try.pinned (OpenSpec.ofChange fnExactDropPowersSpec)

/-- ITS FALSE NEIGHBOUR: 'it returns false'. Refute it at one input. -/
def fnExactDropPowersWrong : ChangeSpec := { name := "fnExactDropPowers", fn := fun _ => fun
  | [d1, d2] => { results := [.lit (.bool false)], args := [d1, d2] }
  | _ => none }
def FnExactDropPowersWrongFalsely : Prop := fnExactDropPowersRow.holds Try.pinned (OpenSpec.ofChange fnExactDropPowersWrong)

/-- 'laws.FnExactRunPowers': WHATEVER THE INPUT: true; the input reads as it did. -/
def fnExactRunPowersSpec : ChangeSpec := { name := "fnExactRunPowers", fn := fun _ => fun
  | [d1, d2, d3, d4] => { results := [.lit (.bool true)], args := [d1, d2, d3, d4] }
  | _ => none }
def fnExactRunPowersRow : OpenClaim := { program := "ytngkfhhlepgogaa", sum := "09fccfdaaff6eb1a0af70eb21c05939442372ae8c4056aac8bf9969209c2450a", func := "loop.example/userspaces/laws.FnExactRunPowers", spec := "fnExactRunPowers", apart := false }
def FnExactRunPowersSaid : Prop := fnExactRunPowersRow.holds Try.pinned (OpenSpec.ofChange fnExactRunPowersSpec)

/-- ITS FALSE NEIGHBOUR: 'it returns false'. Refute it at one input. -/
def fnExactRunPowersWrong : ChangeSpec := { name := "fnExactRunPowers", fn := fun _ => fun
  | [d1, d2, d3, d4] => { results := [.lit (.bool false)], args := [d1, d2, d3, d4] }
  | _ => none }
def FnExactRunPowersWrongFalsely : Prop := fnExactRunPowersRow.holds Try.pinned (OpenSpec.ofChange fnExactRunPowersWrong)

/-- 'laws.FnExactUsePowers': WHATEVER THE INPUT: true; the input reads as it did. -/
def fnExactUsePowersSpec : ChangeSpec := { name := "fnExactUsePowers", fn := fun _ => fun
  | [d1, d2] => { results := [.lit (.bool true)], args := [d1, d2] }
  | _ => none }
def fnExactUsePowersRow : OpenClaim := { program := "ytngkfhhlepgogaa", sum := "09fccfdaaff6eb1a0af70eb21c05939442372ae8c4056aac8bf9969209c2450a", func := "loop.example/userspaces/laws.FnExactUsePowers", spec := "fnExactUsePowers", apart := false }
def FnExactUsePowersSaid : Prop := fnExactUsePowersRow.holds Try.pinned (OpenSpec.ofChange fnExactUsePowersSpec)

/-- ITS FALSE NEIGHBOUR: 'it returns false'. Refute it at one input. -/
def fnExactUsePowersWrong : ChangeSpec := { name := "fnExactUsePowers", fn := fun _ => fun
  | [d1, d2] => { results := [.lit (.bool false)], args := [d1, d2] }
  | _ => none }
def FnExactUsePowersWrongFalsely : Prop := fnExactUsePowersRow.holds Try.pinned (OpenSpec.ofChange fnExactUsePowersWrong)

/-- 'laws.FnPowersValid': WHATEVER THE INPUT: true; the input reads as it did. -/
def fnPowersValidSpec : ChangeSpec := { name := "fnPowersValid", fn := fun _ => fun
  | [d] => { results := [.lit (.bool true)], args := [d] }
  | _ => none }
def fnPowersValidRow : OpenClaim := { program := "ytngkfhhlepgogaa", sum := "09fccfdaaff6eb1a0af70eb21c05939442372ae8c4056aac8bf9969209c2450a", func := "loop.example/userspaces/laws.FnPowersValid", spec := "fnPowersValid", apart := false }
def FnPowersValidSaid : Prop := fnPowersValidRow.holds Try.pinned (OpenSpec.ofChange fnPowersValidSpec)

/-- ITS FALSE NEIGHBOUR: 'it returns false'. Refute it at one input. -/
def fnPowersValidWrong : ChangeSpec := { name := "fnPowersValid", fn := fun _ => fun
  | [d] => { results := [.lit (.bool false)], args := [d] }
  | _ => none }
def FnPowersValidWrongFalsely : Prop := fnPowersValidRow.holds Try.pinned (OpenSpec.ofChange fnPowersValidWrong)

/-- 'laws.FnExactTimersValid': WHATEVER THE INPUT: true; the input reads as it did. -/
def fnExactTimersValidSpec : ChangeSpec := { name := "fnExactTimersValid", fn := fun _ => fun
  | [d] => { results := [.lit (.bool true)], args := [d] }
  | _ => none }
def fnExactTimersValidRow : OpenClaim := { program := "ytngkfhhlepgogaa", sum := "09fccfdaaff6eb1a0af70eb21c05939442372ae8c4056aac8bf9969209c2450a", func := "loop.example/userspaces/laws.FnExactTimersValid", spec := "fnExactTimersValid", apart := false }
def FnExactTimersValidSaid : Prop := fnExactTimersValidRow.holds Try.pinned (OpenSpec.ofChange fnExactTimersValidSpec)

/-- ITS FALSE NEIGHBOUR: 'it returns false'. Refute it at one input. -/
def fnExactTimersValidWrong : ChangeSpec := { name := "fnExactTimersValid", fn := fun _ => fun
  | [d] => { results := [.lit (.bool false)], args := [d] }
  | _ => none }
def FnExactTimersValidWrongFalsely : Prop := fnExactTimersValidRow.holds Try.pinned (OpenSpec.ofChange fnExactTimersValidWrong)

/-- 'laws.FnUsePowers': WHATEVER THE INPUT: true; the input reads as it did. -/
def fnUsePowersSpec : ChangeSpec := { name := "fnUsePowers", fn := fun _ => fun
  | [d] => { results := [.lit (.bool true)], args := [d] }
  | _ => none }
def fnUsePowersRow : OpenClaim := { program := "ytngkfhhlepgogaa", sum := "09fccfdaaff6eb1a0af70eb21c05939442372ae8c4056aac8bf9969209c2450a", func := "loop.example/userspaces/laws.FnUsePowers", spec := "fnUsePowers", apart := false }
def FnUsePowersSaid : Prop := fnUsePowersRow.holds Try.pinned (OpenSpec.ofChange fnUsePowersSpec)

/-- ITS FALSE NEIGHBOUR: 'it returns false'. Refute it at one input. -/
def fnUsePowersWrong : ChangeSpec := { name := "fnUsePowers", fn := fun _ => fun
  | [d] => { results := [.lit (.bool false)], args := [d] }
  | _ => none }
def FnUsePowersWrongFalsely : Prop := fnUsePowersRow.holds Try.pinned (OpenSpec.ofChange fnUsePowersWrong)

/-- 'laws.FnRunPowers': WHATEVER THE INPUT: true; the input reads as it did. -/
def fnRunPowersSpec : ChangeSpec := { name := "fnRunPowers", fn := fun _ => fun
  | [d] => { results := [.lit (.bool true)], args := [d] }
  | _ => none }
def fnRunPowersRow : OpenClaim := { program := "ytngkfhhlepgogaa", sum := "09fccfdaaff6eb1a0af70eb21c05939442372ae8c4056aac8bf9969209c2450a", func := "loop.example/userspaces/laws.FnRunPowers", spec := "fnRunPowers", apart := false }
def FnRunPowersSaid : Prop := fnRunPowersRow.holds Try.pinned (OpenSpec.ofChange fnRunPowersSpec)

/-- ITS FALSE NEIGHBOUR: 'it returns false'. Refute it at one input. -/
def fnRunPowersWrong : ChangeSpec := { name := "fnRunPowers", fn := fun _ => fun
  | [d] => { results := [.lit (.bool false)], args := [d] }
  | _ => none }
def FnRunPowersWrongFalsely : Prop := fnRunPowersRow.holds Try.pinned (OpenSpec.ofChange fnRunPowersWrong)

/-- 'laws.FnDropPowers': WHATEVER THE INPUT: true; the input reads as it did. -/
def fnDropPowersSpec : ChangeSpec := { name := "fnDropPowers", fn := fun _ => fun
  | [d] => { results := [.lit (.bool true)], args := [d] }
  | _ => none }
def fnDropPowersRow : OpenClaim := { program := "ytngkfhhlepgogaa", sum := "09fccfdaaff6eb1a0af70eb21c05939442372ae8c4056aac8bf9969209c2450a", func := "loop.example/userspaces/laws.FnDropPowers", spec := "fnDropPowers", apart := false }
def FnDropPowersSaid : Prop := fnDropPowersRow.holds Try.pinned (OpenSpec.ofChange fnDropPowersSpec)

/-- ITS FALSE NEIGHBOUR: 'it returns false'. Refute it at one input. -/
def fnDropPowersWrong : ChangeSpec := { name := "fnDropPowers", fn := fun _ => fun
  | [d] => { results := [.lit (.bool false)], args := [d] }
  | _ => none }
def FnDropPowersWrongFalsely : Prop := fnDropPowersRow.holds Try.pinned (OpenSpec.ofChange fnDropPowersWrong)

/-- 'laws.FnTimersValid': WHATEVER THE INPUT: true; the input reads as it did. -/
def fnTimersValidSpec : ChangeSpec := { name := "fnTimersValid", fn := fun _ => fun
  | [d] => { results := [.lit (.bool true)], args := [d] }
  | _ => none }
def fnTimersValidRow : OpenClaim := { program := "ytngkfhhlepgogaa", sum := "09fccfdaaff6eb1a0af70eb21c05939442372ae8c4056aac8bf9969209c2450a", func := "loop.example/userspaces/laws.FnTimersValid", spec := "fnTimersValid", apart := false }
def FnTimersValidSaid : Prop := fnTimersValidRow.holds Try.pinned (OpenSpec.ofChange fnTimersValidSpec)

/-- ITS FALSE NEIGHBOUR: 'it returns false'. Refute it at one input. -/
def fnTimersValidWrong : ChangeSpec := { name := "fnTimersValid", fn := fun _ => fun
  | [d] => { results := [.lit (.bool false)], args := [d] }
  | _ => none }
def FnTimersValidWrongFalsely : Prop := fnTimersValidRow.holds Try.pinned (OpenSpec.ofChange fnTimersValidWrong)

/- THE SECOND FORM. 'bulk': how many values and letters a reading holds, each counted each time it is reached (what is shared counts as often as it is met; a slice's spare places count too). A statement '..UptoSaid' is the law's where the arguments, and the package variables that the reading takes, are together of bulk at most 1048576: NARROWER than '..Said'. Prove '..Said' where nothing that the law and all that it calls make is longer than what came in: it says more and counts as full. Else prove '..UptoSaid'. A law counts once. -/
mutual
def uptoBulk {H : Type} : DataW H → Nat
  | .lit (.string bytes) => bytes.length + 1
  | .lit _ => 1
  | .nil => 1
  | .ptr d => uptoBulk d + 1
  | .slice elems spare => uptoBulkAll elems + uptoBulkAll spare + 1
  | .agg parts => uptoBulkAll parts + 1
  | .iface _ d => uptoBulk d + 1
  | .map entries => uptoBulkEntries entries + 1
  | .held _ => 1
def uptoBulkAll {H : Type} : List (DataW H) → Nat
  | [] => 0
  | d :: r => uptoBulk d + uptoBulkAll r
def uptoBulkEntries {H : Type} : List (Lit × DataW H) → Nat
  | [] => 0
  | x :: r => uptoBulkEntry x + uptoBulkEntries r
def uptoBulkEntry {H : Type} : Lit × DataW H → Nat
  | (.string bytes, d) => bytes.length + uptoBulk d + 1
  | (_, d) => uptoBulk d + 1
 end
def uptoSmall : (H : Type) → List (DataW H) → Bool := fun _ ds => decide (uptoBulkAll ds ≤ 1048576)
def OpenSpec.upto (s : _root_.Go.ChangeSpec) : _root_.Go.OpenSpec := { _root_.Go.OpenSpec.ofChange s with cond := some uptoSmall }

/-- 'laws.FnExactDropPowers', WHERE WHAT IT READS IS OF BULK AT MOST 1048576: true; the input reads as it did. -/
def fnExactDropPowersUptoRow : OpenClaim := { program := "ytngkfhhlepgogaa", sum := "09fccfdaaff6eb1a0af70eb21c05939442372ae8c4056aac8bf9969209c2450a", func := "loop.example/userspaces/laws.FnExactDropPowers", spec := "fnExactDropPowers", apart := false, narrowed := true }
def FnExactDropPowersUptoSaid : Prop := fnExactDropPowersUptoRow.holds Try.pinned (OpenSpec.upto fnExactDropPowersSpec)

/-- 'laws.FnExactRunPowers', WHERE WHAT IT READS IS OF BULK AT MOST 1048576: true; the input reads as it did. -/
def fnExactRunPowersUptoRow : OpenClaim := { program := "ytngkfhhlepgogaa", sum := "09fccfdaaff6eb1a0af70eb21c05939442372ae8c4056aac8bf9969209c2450a", func := "loop.example/userspaces/laws.FnExactRunPowers", spec := "fnExactRunPowers", apart := false, narrowed := true }
def FnExactRunPowersUptoSaid : Prop := fnExactRunPowersUptoRow.holds Try.pinned (OpenSpec.upto fnExactRunPowersSpec)

/-- 'laws.FnExactUsePowers', WHERE WHAT IT READS IS OF BULK AT MOST 1048576: true; the input reads as it did. -/
def fnExactUsePowersUptoRow : OpenClaim := { program := "ytngkfhhlepgogaa", sum := "09fccfdaaff6eb1a0af70eb21c05939442372ae8c4056aac8bf9969209c2450a", func := "loop.example/userspaces/laws.FnExactUsePowers", spec := "fnExactUsePowers", apart := false, narrowed := true }
def FnExactUsePowersUptoSaid : Prop := fnExactUsePowersUptoRow.holds Try.pinned (OpenSpec.upto fnExactUsePowersSpec)

/-- 'laws.FnPowersValid', WHERE WHAT IT READS IS OF BULK AT MOST 1048576: true; the input reads as it did. -/
def fnPowersValidUptoRow : OpenClaim := { program := "ytngkfhhlepgogaa", sum := "09fccfdaaff6eb1a0af70eb21c05939442372ae8c4056aac8bf9969209c2450a", func := "loop.example/userspaces/laws.FnPowersValid", spec := "fnPowersValid", apart := false, narrowed := true }
def FnPowersValidUptoSaid : Prop := fnPowersValidUptoRow.holds Try.pinned (OpenSpec.upto fnPowersValidSpec)

/-- 'laws.FnExactTimersValid', WHERE WHAT IT READS IS OF BULK AT MOST 1048576: true; the input reads as it did. -/
def fnExactTimersValidUptoRow : OpenClaim := { program := "ytngkfhhlepgogaa", sum := "09fccfdaaff6eb1a0af70eb21c05939442372ae8c4056aac8bf9969209c2450a", func := "loop.example/userspaces/laws.FnExactTimersValid", spec := "fnExactTimersValid", apart := false, narrowed := true }
def FnExactTimersValidUptoSaid : Prop := fnExactTimersValidUptoRow.holds Try.pinned (OpenSpec.upto fnExactTimersValidSpec)

/-- 'laws.FnUsePowers', WHERE WHAT IT READS IS OF BULK AT MOST 1048576: true; the input reads as it did. -/
def fnUsePowersUptoRow : OpenClaim := { program := "ytngkfhhlepgogaa", sum := "09fccfdaaff6eb1a0af70eb21c05939442372ae8c4056aac8bf9969209c2450a", func := "loop.example/userspaces/laws.FnUsePowers", spec := "fnUsePowers", apart := false, narrowed := true }
def FnUsePowersUptoSaid : Prop := fnUsePowersUptoRow.holds Try.pinned (OpenSpec.upto fnUsePowersSpec)

/-- 'laws.FnRunPowers', WHERE WHAT IT READS IS OF BULK AT MOST 1048576: true; the input reads as it did. -/
def fnRunPowersUptoRow : OpenClaim := { program := "ytngkfhhlepgogaa", sum := "09fccfdaaff6eb1a0af70eb21c05939442372ae8c4056aac8bf9969209c2450a", func := "loop.example/userspaces/laws.FnRunPowers", spec := "fnRunPowers", apart := false, narrowed := true }
def FnRunPowersUptoSaid : Prop := fnRunPowersUptoRow.holds Try.pinned (OpenSpec.upto fnRunPowersSpec)

/-- 'laws.FnDropPowers', WHERE WHAT IT READS IS OF BULK AT MOST 1048576: true; the input reads as it did. -/
def fnDropPowersUptoRow : OpenClaim := { program := "ytngkfhhlepgogaa", sum := "09fccfdaaff6eb1a0af70eb21c05939442372ae8c4056aac8bf9969209c2450a", func := "loop.example/userspaces/laws.FnDropPowers", spec := "fnDropPowers", apart := false, narrowed := true }
def FnDropPowersUptoSaid : Prop := fnDropPowersUptoRow.holds Try.pinned (OpenSpec.upto fnDropPowersSpec)

/-- 'laws.FnTimersValid', WHERE WHAT IT READS IS OF BULK AT MOST 1048576: true; the input reads as it did. -/
def fnTimersValidUptoRow : OpenClaim := { program := "ytngkfhhlepgogaa", sum := "09fccfdaaff6eb1a0af70eb21c05939442372ae8c4056aac8bf9969209c2450a", func := "loop.example/userspaces/laws.FnTimersValid", spec := "fnTimersValid", apart := false, narrowed := true }
def FnTimersValidUptoSaid : Prop := fnTimersValidUptoRow.holds Try.pinned (OpenSpec.upto fnTimersValidSpec)

end Rows
end Go.Proofs.Ytngkfhhlepgogaa
