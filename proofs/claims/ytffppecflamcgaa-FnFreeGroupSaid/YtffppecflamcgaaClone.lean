/- slices.Clone on limits. -/
import Derived.Test.YtffppecflamcgaaRow
import Derived.Test.YtffppecflamcgaaLim
import Derived.Laws.AppendOwnNone
import Derived.Lib.LazyBuf
set_option linter.unusedSimpArgs false
set_option linter.unusedVariables false
set_option linter.unusedSectionVars false
namespace Go.Proofs.Ytffppecflamcgaa
open Go.RowKit

theorem infoLim : (Try.prog.info? 34).map (fun i => (i.zero, i.size, i.bytes)) = some (some (.agg #[.int .i64 0, .int .i64 0, .int .i64 0]), 3, 24) := by kernel_rfl
theorem row3_zero {f : Nat → T3} : row3 0 f = [] := rfl

theorem nil_none (n cap : Nat) (w : World) : (binOp .eql 25 (.slice none n cap) (.slice none 0 0)).run Try.prog w = .ok (.bool true) w := rfl
theorem nil_some (ad : Addr) (n cap : Nat) (w : World) : (binOp .eql 25 (.slice (some ad) n cap) (.slice none 0 0)).run Try.prog w = .ok (.bool false) w := rfl

set_option maxHeartbeats 1000000 in
theorem clone_nil (cap : Nat) (w : World) : Calls Try.prog 39 #[.slice none 0 cap] w fun e w' => e = .returned (.slice none 0 0) ∧ Below w.heap.size w w' := by
  have he := nil_none 0 cap
  go_enter Try.func39, Try.ntmps39
  go_wp2
  go_ret
  exact ⟨rfl, (by (repeat (first | exact Below.refl _ _ | exact Hbl.out | refine Below.ext ?_ (by first | omega | (simp; omega) | simp) | refine Below.setCell ?_ (by first | omega | (simp; omega) | simp) _ | refine Below.alloc ?_ (by first | omega | (simp; omega) | simp) _ | refine Below.drew ?_ | refine below_drewN ?_ _ | refine Below.step (by assumption) (by first | omega | (simp; omega) | simp) ?_)))⟩
set_option maxHeartbeats 1000000 in
theorem clone_some (ad : Addr) (n cap : Nat) (news : List Value) (w : World) (hn : n ≤ 1048576) (hb : n = 0 ∨ ad.block < w.heap.size) (hl : news.length = n * 3) (hnews : ∀ j u, news[j]? = some u → w.cell? (ad.add j) = some u) (h1 : ∀ u ∈ news, u.oneCell' = true) : Calls Try.prog 39 #[.slice (some ad) n cap] w fun e w' => ∃ v', e = .returned v' ∧ w'.ownsRow w.heap.size 34 3 v' n news ∧ Below w.heap.size w w' := by
  obtain ⟨i0, hi, hz0, hz1, hz2⟩ := info_parts infoLim
  have Hn := Lib.hid hnews; clear hnews
  have H1 := Lib.hid h1; clear h1
  have Hl := Lib.hid hl; clear hl
  have he := nil_some ad n cap
  go_enter Try.func39, Try.ntmps39
  go_wp2_with (at_builtin; refine wpList_append_own _ rfl (.tmp 5) (.tmp 6) 25 rfl w.heap.size 34 i0 _ 3 24 Try.underlying25 hi hz0 hz1 hz2 rfl (by decide) _ 0 [] rfl (World.ownsRow_made w #[] 0 (Nat.le_refl _) (by decide) rfl) ad n cap news rfl Hl.out ?c1 H1.out ?c2 ?c3 ?c4 ?_)
  case c1 =>
    intro j u hj
    rcases hb with rfl | hb
    · have hl := Hl.out
      have := List.length_eq_zero_iff.1 (by omega : news.length = 0)
      subst this
      simp at hj
    · rw [← Hn.out j u hj]
      exact (Below.alloc (Below.refl w.heap.size w) (Nat.le_refl _) _).cell (p := ad.add j) (by unfold Addr.add; split <;> exact hb)
  case c2 => unfold maxLen; omega
  case c3 => omega
  case c4 => simp
  intro v' w' hown hg _
  have hbl : Below w.heap.size w w' := (Below.alloc (Below.refl _ _) (Nat.le_refl _) _).grown hg (by simp) (by intro k hk; cases hk; exact Nat.le_refl _)
  obtain ⟨A', c', rfl⟩ : ∃ A' c', v' = .slice A' n c' := by
    rcases hown.2 with ⟨rfl, rfl⟩ | ⟨g, c, cur, rfl, _⟩
    · exact ⟨_, _, rfl⟩
    · exact ⟨_, _, rfl⟩
  have Hown := Lib.hid hown; clear hown
  go_wp2
  all_goals
    go_ret
    exact ⟨_, rfl, Hown.out, hbl⟩
end Go.Proofs.Ytffppecflamcgaa
