/-
  No cell of these rows narrows 'for every input' (looked for: loops, veiled, ifaces, maps, wideKeys, modest, calm, conditions, laid).
  DERIVED. THE GIVEN ROWS OF THIS SEAT. 8 by the template 'for every input the law returns true; each argument reads behind the call as it read before'; 0 by the template 'total and deterministic' (their statements: YtlanbgpmmlnehaaTotals.lean).
  GIVEN WITH THE SEED: the statements are not yours to turn. If you find one false, say at which input.
  Laid BY PROGRAM, IN A SANDBOX (cutbox-rows.mjs): the forced cells as the released guide's own fill.sh prints them over the translation a7eef87db7138a48… (all of the seat's roots in one cut). By AI agents, Wed Nov 11 2026. No macro, syntax, notation, axiom, sorry.
-/
import Derived.Test.YtlanbgpmmlnehaaChecked
import GoSem.Claim
import GoSem.ClaimJoined
import GoSem.ClaimMapViews
import Derived.JoinedTies
import Derived.KernelRfl
namespace Go.Proofs.Ytlanbgpmmlnehaa
/- THE CELL 'sum', in the pinned program and in every row, IS THE sha256 OF THE DUMP (.gsa) THAT YtlanbgpmmlnehaaProg.lean LOADS. Nothing in Lean hashes anything: it is a label: what it is worth is what the hold of that sum in a sandbox is worth. -/
noncomputable def Try.pinned : Pinned := { name := "ytlanbgpmmlnehaa", sum := "a7eef87db7138a4884db34c45ecc1506e11c663f9aa865bba283bec8cfb76297", checked := Try.checked }
namespace Rows
def none {H : Type} : Left H := { results := [], args := [] }

/-- 'laws.FnUsePowers': WHATEVER THE INPUT: true; the input reads as it did. -/
def fnUsePowersSpec : ChangeSpec := { name := "fnUsePowers", fn := fun _ => fun
  | [d] => { results := [.lit (.bool true)], args := [d] }
  | _ => none }
def fnUsePowersRow : OpenClaim := { program := "ytlanbgpmmlnehaa", sum := "a7eef87db7138a4884db34c45ecc1506e11c663f9aa865bba283bec8cfb76297", func := "loop.example/userspaces/laws.FnUsePowers", spec := "fnUsePowers", apart := false }
def FnUsePowersSaid : Prop := fnUsePowersRow.holds Try.pinned (OpenSpec.ofChange fnUsePowersSpec)

/-- ITS FALSE NEIGHBOUR: 'it returns false'. Refute it at one input. -/
def fnUsePowersWrong : ChangeSpec := { name := "fnUsePowers", fn := fun _ => fun
  | [d] => { results := [.lit (.bool false)], args := [d] }
  | _ => none }
def FnUsePowersWrongFalsely : Prop := fnUsePowersRow.holds Try.pinned (OpenSpec.ofChange fnUsePowersWrong)

/-- 'laws.FnTimersValid': WHATEVER THE INPUT: true; the input reads as it did. -/
def fnTimersValidSpec : ChangeSpec := { name := "fnTimersValid", fn := fun _ => fun
  | [d] => { results := [.lit (.bool true)], args := [d] }
  | _ => none }
def fnTimersValidRow : OpenClaim := { program := "ytlanbgpmmlnehaa", sum := "a7eef87db7138a4884db34c45ecc1506e11c663f9aa865bba283bec8cfb76297", func := "loop.example/userspaces/laws.FnTimersValid", spec := "fnTimersValid", apart := false }
def FnTimersValidSaid : Prop := fnTimersValidRow.holds Try.pinned (OpenSpec.ofChange fnTimersValidSpec)

/-- ITS FALSE NEIGHBOUR: 'it returns false'. Refute it at one input. -/
def fnTimersValidWrong : ChangeSpec := { name := "fnTimersValid", fn := fun _ => fun
  | [d] => { results := [.lit (.bool false)], args := [d] }
  | _ => none }
def FnTimersValidWrongFalsely : Prop := fnTimersValidRow.holds Try.pinned (OpenSpec.ofChange fnTimersValidWrong)

/-- 'laws.FnAuditValid': WHATEVER THE INPUT: true; the input reads as it did. -/
def fnAuditValidSpec : ChangeSpec := { name := "fnAuditValid", fn := fun _ => fun
  | [d] => { results := [.lit (.bool true)], args := [d] }
  | _ => none }
def fnAuditValidRow : OpenClaim := { program := "ytlanbgpmmlnehaa", sum := "a7eef87db7138a4884db34c45ecc1506e11c663f9aa865bba283bec8cfb76297", func := "loop.example/userspaces/laws.FnAuditValid", spec := "fnAuditValid", apart := false }
def FnAuditValidSaid : Prop := fnAuditValidRow.holds Try.pinned (OpenSpec.ofChange fnAuditValidSpec)

/-- ITS FALSE NEIGHBOUR: 'it returns false'. Refute it at one input. -/
def fnAuditValidWrong : ChangeSpec := { name := "fnAuditValid", fn := fun _ => fun
  | [d] => { results := [.lit (.bool false)], args := [d] }
  | _ => none }
def FnAuditValidWrongFalsely : Prop := fnAuditValidRow.holds Try.pinned (OpenSpec.ofChange fnAuditValidWrong)

/-- 'laws.FnLostNotes': WHATEVER THE INPUT: true; the input reads as it did. -/
def fnLostNotesSpec : ChangeSpec := { name := "fnLostNotes", fn := fun _ => fun
  | [d] => { results := [.lit (.bool true)], args := [d] }
  | _ => none }
def fnLostNotesRow : OpenClaim := { program := "ytlanbgpmmlnehaa", sum := "a7eef87db7138a4884db34c45ecc1506e11c663f9aa865bba283bec8cfb76297", func := "loop.example/userspaces/laws.FnLostNotes", spec := "fnLostNotes", apart := false }
def FnLostNotesSaid : Prop := fnLostNotesRow.holds Try.pinned (OpenSpec.ofChange fnLostNotesSpec)

/-- ITS FALSE NEIGHBOUR: 'it returns false'. Refute it at one input. -/
def fnLostNotesWrong : ChangeSpec := { name := "fnLostNotes", fn := fun _ => fun
  | [d] => { results := [.lit (.bool false)], args := [d] }
  | _ => none }
def FnLostNotesWrongFalsely : Prop := fnLostNotesRow.holds Try.pinned (OpenSpec.ofChange fnLostNotesWrong)

/-- 'laws.FnAddNote': WHATEVER THE INPUT: true; the input reads as it did. -/
def fnAddNoteSpec : ChangeSpec := { name := "fnAddNote", fn := fun _ => fun
  | [d] => { results := [.lit (.bool true)], args := [d] }
  | _ => none }
def fnAddNoteRow : OpenClaim := { program := "ytlanbgpmmlnehaa", sum := "a7eef87db7138a4884db34c45ecc1506e11c663f9aa865bba283bec8cfb76297", func := "loop.example/userspaces/laws.FnAddNote", spec := "fnAddNote", apart := false }
def FnAddNoteSaid : Prop := fnAddNoteRow.holds Try.pinned (OpenSpec.ofChange fnAddNoteSpec)

/-- ITS FALSE NEIGHBOUR: 'it returns false'. Refute it at one input. -/
def fnAddNoteWrong : ChangeSpec := { name := "fnAddNote", fn := fun _ => fun
  | [d] => { results := [.lit (.bool false)], args := [d] }
  | _ => none }
def FnAddNoteWrongFalsely : Prop := fnAddNoteRow.holds Try.pinned (OpenSpec.ofChange fnAddNoteWrong)

/-- 'laws.FnNotesOf': WHATEVER THE INPUT: true; the input reads as it did. -/
def fnNotesOfSpec : ChangeSpec := { name := "fnNotesOf", fn := fun _ => fun
  | [d] => { results := [.lit (.bool true)], args := [d] }
  | _ => none }
def fnNotesOfRow : OpenClaim := { program := "ytlanbgpmmlnehaa", sum := "a7eef87db7138a4884db34c45ecc1506e11c663f9aa865bba283bec8cfb76297", func := "loop.example/userspaces/laws.FnNotesOf", spec := "fnNotesOf", unfollowed := true, recurses := true, apart := false }
def FnNotesOfSaid : Prop := fnNotesOfRow.holds Try.pinned (OpenSpec.ofChange fnNotesOfSpec)

/-- ITS FALSE NEIGHBOUR: 'it returns false'. Refute it at one input. -/
def fnNotesOfWrong : ChangeSpec := { name := "fnNotesOf", fn := fun _ => fun
  | [d] => { results := [.lit (.bool false)], args := [d] }
  | _ => none }
def FnNotesOfWrongFalsely : Prop := fnNotesOfRow.holds Try.pinned (OpenSpec.ofChange fnNotesOfWrong)

/-- 'laws.FnExactNotesOf': WHATEVER THE INPUT: true; the input reads as it did. -/
def fnExactNotesOfSpec : ChangeSpec := { name := "fnExactNotesOf", fn := fun _ => fun
  | [d1, d2, d3] => { results := [.lit (.bool true)], args := [d1, d2, d3] }
  | _ => none }
def fnExactNotesOfRow : OpenClaim := { program := "ytlanbgpmmlnehaa", sum := "a7eef87db7138a4884db34c45ecc1506e11c663f9aa865bba283bec8cfb76297", func := "loop.example/userspaces/laws.FnExactNotesOf", spec := "fnExactNotesOf", unfollowed := true, recurses := true, apart := false }
def FnExactNotesOfSaid : Prop := fnExactNotesOfRow.holds Try.pinned (OpenSpec.ofChange fnExactNotesOfSpec)

/-- ITS FALSE NEIGHBOUR: 'it returns false'. Refute it at one input. -/
def fnExactNotesOfWrong : ChangeSpec := { name := "fnExactNotesOf", fn := fun _ => fun
  | [d1, d2, d3] => { results := [.lit (.bool false)], args := [d1, d2, d3] }
  | _ => none }
def FnExactNotesOfWrongFalsely : Prop := fnExactNotesOfRow.holds Try.pinned (OpenSpec.ofChange fnExactNotesOfWrong)

/-- 'laws.FnExactAddNote': WHATEVER THE INPUT: true; the input reads as it did. -/
def fnExactAddNoteSpec : ChangeSpec := { name := "fnExactAddNote", fn := fun _ => fun
  | [d1, d2, d3, d4] => { results := [.lit (.bool true)], args := [d1, d2, d3, d4] }
  | _ => none }
def fnExactAddNoteRow : OpenClaim := { program := "ytlanbgpmmlnehaa", sum := "a7eef87db7138a4884db34c45ecc1506e11c663f9aa865bba283bec8cfb76297", func := "loop.example/userspaces/laws.FnExactAddNote", spec := "fnExactAddNote", apart := false }
def FnExactAddNoteSaid : Prop := fnExactAddNoteRow.holds Try.pinned (OpenSpec.ofChange fnExactAddNoteSpec)

/-- ITS FALSE NEIGHBOUR: 'it returns false'. Refute it at one input. -/
def fnExactAddNoteWrong : ChangeSpec := { name := "fnExactAddNote", fn := fun _ => fun
  | [d1, d2, d3, d4] => { results := [.lit (.bool false)], args := [d1, d2, d3, d4] }
  | _ => none }
def FnExactAddNoteWrongFalsely : Prop := fnExactAddNoteRow.holds Try.pinned (OpenSpec.ofChange fnExactAddNoteWrong)

/- THE SECOND FORM. 'bulk': how many values and letters a reading holds, each counted each time it is reached (what is shared counts as often as it is met; a slice's spare places count too). A statement '..UptoSaid' is the law's where the arguments, and the package variables that the reading takes, are together of bulk at most 1048576: NARROWER than '..Said'. Prove '..Said' where nothing that the law and all that it calls make is longer than what came in: it says more and counts as full. Else prove '..UptoSaid'. A law counts once. -/
mutual
def uptoBulk {H : Type} : DataW H → Nat
  | .lit (.string bytes) => bytes.length + 1
  | .lit _ => 1
  | .nil => 1
  | .ptr d => uptoBulk d + 1
  | .slice elems spare => uptoBulkAll elems + uptoBulkAll spare + 1
  | .agg parts => uptoBulkAll parts + 1
  | .iface _ d => uptoBulk d + 1
  | .map entries => uptoBulkEntries entries + 1
  | .held _ => 1
def uptoBulkAll {H : Type} : List (DataW H) → Nat
  | [] => 0
  | d :: r => uptoBulk d + uptoBulkAll r
def uptoBulkEntries {H : Type} : List (Lit × DataW H) → Nat
  | [] => 0
  | x :: r => uptoBulkEntry x + uptoBulkEntries r
def uptoBulkEntry {H : Type} : Lit × DataW H → Nat
  | (.string bytes, d) => bytes.length + uptoBulk d + 1
  | (_, d) => uptoBulk d + 1
 end
def uptoSmall : (H : Type) → List (DataW H) → Bool := fun _ ds => decide (uptoBulkAll ds ≤ 1048576)
def OpenSpec.upto (s : _root_.Go.ChangeSpec) : _root_.Go.OpenSpec := { _root_.Go.OpenSpec.ofChange s with cond := some uptoSmall }

/-- 'laws.FnUsePowers', WHERE WHAT IT READS IS OF BULK AT MOST 1048576: true; the input reads as it did. -/
def fnUsePowersUptoRow : OpenClaim := { program := "ytlanbgpmmlnehaa", sum := "a7eef87db7138a4884db34c45ecc1506e11c663f9aa865bba283bec8cfb76297", func := "loop.example/userspaces/laws.FnUsePowers", spec := "fnUsePowers", apart := false, narrowed := true }
def FnUsePowersUptoSaid : Prop := fnUsePowersUptoRow.holds Try.pinned (OpenSpec.upto fnUsePowersSpec)

/-- 'laws.FnTimersValid', WHERE WHAT IT READS IS OF BULK AT MOST 1048576: true; the input reads as it did. -/
def fnTimersValidUptoRow : OpenClaim := { program := "ytlanbgpmmlnehaa", sum := "a7eef87db7138a4884db34c45ecc1506e11c663f9aa865bba283bec8cfb76297", func := "loop.example/userspaces/laws.FnTimersValid", spec := "fnTimersValid", apart := false, narrowed := true }
def FnTimersValidUptoSaid : Prop := fnTimersValidUptoRow.holds Try.pinned (OpenSpec.upto fnTimersValidSpec)

/-- 'laws.FnAuditValid', WHERE WHAT IT READS IS OF BULK AT MOST 1048576: true; the input reads as it did. -/
def fnAuditValidUptoRow : OpenClaim := { program := "ytlanbgpmmlnehaa", sum := "a7eef87db7138a4884db34c45ecc1506e11c663f9aa865bba283bec8cfb76297", func := "loop.example/userspaces/laws.FnAuditValid", spec := "fnAuditValid", apart := false, narrowed := true }
def FnAuditValidUptoSaid : Prop := fnAuditValidUptoRow.holds Try.pinned (OpenSpec.upto fnAuditValidSpec)

/-- 'laws.FnLostNotes', WHERE WHAT IT READS IS OF BULK AT MOST 1048576: true; the input reads as it did. -/
def fnLostNotesUptoRow : OpenClaim := { program := "ytlanbgpmmlnehaa", sum := "a7eef87db7138a4884db34c45ecc1506e11c663f9aa865bba283bec8cfb76297", func := "loop.example/userspaces/laws.FnLostNotes", spec := "fnLostNotes", apart := false, narrowed := true }
def FnLostNotesUptoSaid : Prop := fnLostNotesUptoRow.holds Try.pinned (OpenSpec.upto fnLostNotesSpec)

/-- 'laws.FnAddNote', WHERE WHAT IT READS IS OF BULK AT MOST 1048576: true; the input reads as it did. -/
def fnAddNoteUptoRow : OpenClaim := { program := "ytlanbgpmmlnehaa", sum := "a7eef87db7138a4884db34c45ecc1506e11c663f9aa865bba283bec8cfb76297", func := "loop.example/userspaces/laws.FnAddNote", spec := "fnAddNote", apart := false, narrowed := true }
def FnAddNoteUptoSaid : Prop := fnAddNoteUptoRow.holds Try.pinned (OpenSpec.upto fnAddNoteSpec)

/-- 'laws.FnNotesOf', WHERE WHAT IT READS IS OF BULK AT MOST 1048576: true; the input reads as it did. -/
def fnNotesOfUptoRow : OpenClaim := { program := "ytlanbgpmmlnehaa", sum := "a7eef87db7138a4884db34c45ecc1506e11c663f9aa865bba283bec8cfb76297", func := "loop.example/userspaces/laws.FnNotesOf", spec := "fnNotesOf", unfollowed := true, recurses := true, apart := false, narrowed := true }
def FnNotesOfUptoSaid : Prop := fnNotesOfUptoRow.holds Try.pinned (OpenSpec.upto fnNotesOfSpec)

/-- 'laws.FnExactNotesOf', WHERE WHAT IT READS IS OF BULK AT MOST 1048576: true; the input reads as it did. -/
def fnExactNotesOfUptoRow : OpenClaim := { program := "ytlanbgpmmlnehaa", sum := "a7eef87db7138a4884db34c45ecc1506e11c663f9aa865bba283bec8cfb76297", func := "loop.example/userspaces/laws.FnExactNotesOf", spec := "fnExactNotesOf", unfollowed := true, recurses := true, apart := false, narrowed := true }
def FnExactNotesOfUptoSaid : Prop := fnExactNotesOfUptoRow.holds Try.pinned (OpenSpec.upto fnExactNotesOfSpec)

/-- 'laws.FnExactAddNote', WHERE WHAT IT READS IS OF BULK AT MOST 1048576: true; the input reads as it did. -/
def fnExactAddNoteUptoRow : OpenClaim := { program := "ytlanbgpmmlnehaa", sum := "a7eef87db7138a4884db34c45ecc1506e11c663f9aa865bba283bec8cfb76297", func := "loop.example/userspaces/laws.FnExactAddNote", spec := "fnExactAddNote", apart := false, narrowed := true }
def FnExactAddNoteUptoSaid : Prop := fnExactAddNoteUptoRow.holds Try.pinned (OpenSpec.upto fnExactAddNoteSpec)

end Rows
end Go.Proofs.Ytlanbgpmmlnehaa
