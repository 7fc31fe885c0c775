/- 'sameNotes' on equal lists, and on lists of different lengths. -/
import Derived.Test.YtlanbgpmmlnehaaNoteG
set_option linter.unusedSimpArgs false
set_option linter.unusedVariables false
set_option linter.unusedSectionVars false
namespace Go.Proofs.Ytlanbgpmmlnehaa
open Go.RowKit

def Quiet (w : World) (b : Bool) (e : Ending) (w' : World) : Prop := e = .returned (.bool b) ∧ ∃ n, w' = w.drewN n
set_option maxHeartbeats 4000000 in
theorem sameNotes_eq (u v : Value) (l : List T4) (w : World) (hu : SlG EN w u l) (hv : SlG EN w v l) (hl : l.length ≤ 1000) : Calls Try.prog 28 #[u, v] w (Quiet w true) := by
  have Hu := Lib.hid hu
  have Hv := Lib.hid hv
  obtain ⟨A, c, rfl⟩ := hu.shape
  obtain ⟨B, d, rfl⟩ := hv.shape
  clear hu hv
  go_enter Try.func28, Try.ntmps28
  go_wp2
  go_loopw [5] (fun i wr => ∃ k n : Nat, k ≤ l.length ∧ i = .int .i64 k ∧ wr = w.drewN n) (fun i _ => l.length - (intOf i).toNat)
  case atStart => exact ⟨0, 0, Nat.zero_le _, rfl, rfl⟩
  case round =>
    obtain ⟨k, n, hk, rfl, rfl⟩ := hrel
    by_cases hlt : k < l.length
    · have hx := nt_at hlt
      obtain ⟨b1, o1, rfl, hb1, h1⟩ := Hu.out.at_ hx
      obtain ⟨b2, o2, rfl, hb2, h2⟩ := Hv.out.at_ hx
      have c0 : w.cell? ⟨b1, o1 + k * 4, none⟩ = some (.int .i64 (nt l k).1) := h1 0 _ rfl
      have c1 : w.cell? ⟨b1, o1 + k * 4 + 1, none⟩ = some (.int .i64 (nt l k).2.1) := h1 1 _ rfl
      have c2 : w.cell? ⟨b1, o1 + k * 4 + 2, none⟩ = some (.string (nt l k).2.2.1) := h1 2 _ rfl
      have c3 : w.cell? ⟨b1, o1 + k * 4 + 3, none⟩ = some (.int .i64 (nt l k).2.2.2) := h1 3 _ rfl
      have d0 : w.cell? ⟨b2, o2 + k * 4, none⟩ = some (.int .i64 (nt l k).1) := h2 0 _ rfl
      have d1 : w.cell? ⟨b2, o2 + k * 4 + 1, none⟩ = some (.int .i64 (nt l k).2.1) := h2 1 _ rfl
      have d2 : w.cell? ⟨b2, o2 + k * 4 + 2, none⟩ = some (.string (nt l k).2.2.1) := h2 2 _ rfl
      have d3 : w.cell? ⟨b2, o2 + k * 4 + 3, none⟩ = some (.int .i64 (nt l k).2.2.2) := h2 3 _ rfl
      clear h1 h2 hx
      go_wp2_with fail
      go_quiet (fail)
      go_wp2_with fail
      go_roundw
      case rel => exact ⟨k + 1, _, hlt, by go_num, by first | rfl | simp [World.drewN]⟩
      case measure => simp [intOf]; omega
    · go_wp2
      go_ret
      exact ⟨rfl, _, rfl⟩
theorem sameNotes_len (A B : Option Addr) (n m c d : Nat) (w : World) (h : n ≠ m) : Calls Try.prog 28 #[.slice A n c, .slice B m d] w (Quiet w false) := by
  have h' : ¬ (n : Int) = (m : Int) := by omega
  go_enter Try.func28, Try.ntmps28
  go_wp2
  go_ret
  exact ⟨rfl, 0, rfl⟩
end Go.Proofs.Ytlanbgpmmlnehaa
