/- slices.Delete of the first note. -/
import Derived.Test.YtlanbgpmmlnehaaDel
import Derived.Deep.RegionLaw
set_option linter.unusedSimpArgs false
set_option linter.unusedVariables false
set_option linter.unusedSectionVars false
namespace Go.Proofs.Ytlanbgpmmlnehaa
open Go.RowKit

theorem zeroCells_one {z : Array Value} (n : Nat) (h1 : ∀ u ∈ z, u.oneCell' = true) : ∀ u ∈ (Builtin.zeroCells z n).toList, u.oneCell' = true := by
  intro u hu
  by_cases hz : 0 < z.size
  · simp only [Builtin.zeroCells, Array.toList_map, List.mem_map] at hu
    obtain ⟨i, _, rfl⟩ := hu
    have hi : i % z.size < z.size := Nat.mod_lt _ hz
    rw [getElem!_pos z _ hi]
    exact h1 _ (Array.getElem_mem hi)
  · have h0 : z.size = 0 := by omega
    simp [Builtin.zeroCells, h0] at hu
theorem zeroCells_len {z : Array Value} (n : Nat) : (Builtin.zeroCells z n).toList.length = n * z.size := by simp [Builtin.zeroCells]
/-- clear of n elements of several cells. -/
theorem run_clear_cells {P : Program} (w : World) (t e ty : TypeId) (z : Value) (ht : P.underlying t = some (.slice e)) (hv : ∀ w, (zeroValue e).run P w = .ok z w) (h1 : ∀ u ∈ z.cells, u.oneCell' = true) (b o n c : Nat) (hn : 0 < n)
    (hc : ∀ j, j < n * z.cells.size → (w.cell? ⟨b, o + j, none⟩).isSome = true) (hf : ∀ j, j < n * z.cells.size → w.frozen? ⟨b, o + j, none⟩ = false) :
    (Builtin.clear_ #[t] ty #[.slice (some ⟨b, o, none⟩) n c]).run P w = .ok (.tuple #[]) (w.setCells b o (Builtin.zeroCells z.cells n).toList) := by
  have hst := run_storeCells_cells (P := P) b o (Builtin.zeroCells z.cells n).toList 0 w (by rw [zeroCells_len]; simpa using hc) (by rw [zeroCells_len]; simpa using hf) (zeroCells_one n h1)
  simp only [Nat.add_zero] at hst
  obtain ⟨m, rfl⟩ : ∃ m, n = m + 1 := ⟨n - 1, by omega⟩
  simp [Builtin.clear_, run_underlying ht, hv, hst]
set_option maxHeartbeats 1000000 in
theorem delete0N_of (x : T4) (r : List T4) (B b off cap : Nat) (w : World) (h : RowF EN B w (.slice (some ⟨b, off, none⟩) (r.length + 1) cap) (x :: r)) : Calls Try.prog 57 #[.slice (some ⟨b, off, none⟩) (r.length + 1) cap, .int .i64 0, .int .i64 1] w fun e w' => e = .returned (.slice (some ⟨b, off, none⟩) r.length cap) ∧ RowF EN B w' (.slice (some ⟨b, off, none⟩) r.length cap) r ∧ B ≤ b ∧ Hid (∃ o1 z1 o2 z2, w' = (w.drew.setCells b o1 z1).setCells b o2 z2) := by
  have H0 := h
  obtain ⟨A0, cap', e, hc1, hc2, h3⟩ := h
  injection e with e1 e2 e3
  clear e2
  subst e1 e3
  rcases h3 with ⟨hx, _⟩ | ⟨b', off', e, hBb, hlt, hat, hw⟩
  · cases hx
  cases e
  obtain ⟨i0, z0, bytes, hi0, hz0, hz1, hz2, hz3, hz4⟩ := fitN.hi
  have H0' : RowF EN B w.drew (.slice (some ⟨b, off, none⟩) (x :: r).length cap) (x :: r) := H0.imp fun _ h => h
  have H1 := rowF_shift H0' (i := 0) (j := 1) (by omega) (by simp)
  obtain ⟨news, hnews⟩ : ∃ news, news = r.flatMap EN.put := ⟨_, rfl⟩
  have hlen : news.length = r.length * 4 := by rw [hnews, flat_len]; rfl
  have hget : ∀ t u, news[t]? = some u → w.drew.cell? ⟨b, off + 4 + t, none⟩ = some u := by
    intro t u hu
    rw [hnews] at hu
    obtain ⟨i, j, y, rfl, hj, hy, hu⟩ := flat_inv hu
    have := hat (i + 1) y (by simpa using hy) j u hu
    rw [show off + 4 + (i * EN.z + j) = off + (i + 1) * EN.z + j by show off + 4 + (i * 4 + j) = off + (i + 1) * 4 + j; omega]
    exact this
  obtain ⟨W1, hW1⟩ : ∃ W1, W1 = w.drew.setCells b (off + 0 * 4) news := ⟨_, rfl⟩
  have hcl : ∀ ty, (Builtin.clear_ #[37] ty #[.slice (some ⟨b, off + r.length * 4, none⟩) 1 (cap - r.length)]).run Try.prog W1 = .ok (.tuple #[]) (W1.setCells b (off + r.length * 4) (Builtin.zeroCells #[.int .i64 0, .int .i64 0, .string "".toUTF8, .int .i64 0] 1).toList) := fun ty =>
    run_clear_cells W1 _ 49 ty (.agg #[.int .i64 0, .int .i64 0, .string "".toUTF8, .int .i64 0]) fitN.ht (fun _ => rfl) (by
      intro u hu
      have hu' : u ∈ (#[Value.int .i64 0, .int .i64 0, .string "".toUTF8, .int .i64 0] : Array Value) := hu
      simp at hu'
      rcases hu' with rfl | rfl | rfl | rfl <;> rfl) b (off + r.length * 4) 1 _ (by omega)
      (fun j hj => by
        have hj' : j < 4 := hj
        rw [hW1]
        have := (hw (r.length * 4 + j) (by show _ < cap * 4; simp at hc1; omega)).1
        rw [Nat.add_assoc]
        exact World.isSome_setCells b _ _ _ _ this)
      (fun j hj => by
        have hj' : j < 4 := hj
        rw [hW1, World.frozen?_setCells]
        have := (hw (r.length * 4 + j) (by show _ < cap * 4; simp at hc1; omega)).2
        rw [Nat.add_assoc]
        exact this)
  obtain ⟨A, hA, hsrc⟩ : ∃ A : Addr, (if cap = 1 then (some ⟨b, off, none⟩ : Option Addr) else some ⟨b, off + 4, none⟩) = some A ∧ Hid (∀ t u, news[t]? = some u → w.drew.cell? (A.add t) = some u) := by
    by_cases hc : cap = 1
    · refine ⟨⟨b, off, none⟩, by simp [hc], fun t u hu => ?_⟩
      have h0 : news.length = 0 := by rw [hlen]; simp at hc1; omega
      rw [List.length_eq_zero_iff.1 h0] at hu
      simp at hu
    · refine ⟨⟨b, off + 4, none⟩, by simp [hc], fun t u hu => ?_⟩
      have := hget t u hu
      rw [Addr.add_lit]
      exact this
  have s1 : Hid (news.length = r.length * 4) := hlen
  have s2 : Hid (∀ u ∈ news, u.oneCell' = true) := by rw [hnews]; exact flat_one r
  have s3 : Hid (∀ t, t < news.length → (w.drew.cell? ⟨b, off + 0 * 4 + t, none⟩).isSome = true ∧ w.drew.frozen? ⟨b, off + 0 * 4 + t, none⟩ = false) := by
    intro t ht
    rw [hlen] at ht
    have := hw t (by show t < cap * 4; simp at hc1; omega)
    simpa using this
  have X : Hid (W1 = w.drew.setCells b (off + 0 * 4) news) := hW1
  have hcap : r.length + 1 ≤ cap := by simpa using hc1
  have h1le : ((1:Int) ≤ (r.length : Int) + 1) = True := by simp; omega
  have hm : cap ≤ 9223372036854775807 := by unfold maxLen at hc2; omega
  have Y : Hid (RowF EN B (W1.setCells b (off + r.length * 4) (Builtin.zeroCells #[.int .i64 0, .int .i64 0, .string "".toUTF8, .int .i64 0] 1).toList) (.slice (some ⟨b, off, none⟩) r.length cap) r) := by
    have h4 : RowF EN B W1 (.slice (some ⟨b, off, none⟩) r.length cap) r := by
      have := H1
      simp only [Nat.zero_add, List.take_zero, List.nil_append, List.drop_succ_cons, List.drop_zero, List.length_cons, Nat.add_sub_cancel] at this
      rw [hW1, hnews]
      exact this
    exact rowF_tail h4 (Nat.le_refl _)
  clear hW1 hget hlen hnews H0 H0' H1 hat hw hc1 hc2
  go_enter Try.func57, Try.ntmps57
  go_wp2_with fail
  go_region_law (refine step_append_room rfl (.tmp 22) (.tmp 25) 37 rfl 49 i0 4 fitN.ht hi0 hz1 b off 0 cap (by simp [Act.eval, Act.put]) A r.length (cap - 1) news (by simp [Act.eval, Act.put]) s1.out hsrc.out s2.out (by omega) s3.out ?_; rw [← X.out])
  go_wp2
  go_ret
  exact ⟨rfl, Y.out, hBb, ⟨_, _, _, _, by rw [← X.out]⟩⟩
theorem setCells_keeps (w : World) (b o : Nat) (zs : List Value) : (∀ c i, ((⟨c, 0, none⟩ : Addr) = ⟨b, 0, none⟩) = False → (w.setCells b o zs).cell? ⟨c, i, none⟩ = w.cell? ⟨c, i, none⟩) ∧ (w.setCells b o zs).heap.size = w.heap.size := by
  refine ⟨fun c i hc => World.cell?_setCells_out b zs o w _ (fun h => ?_), ?_⟩
  · exact absurd h (fun e => by cases e; simp at hc)
  · induction zs generalizing o w with
    | nil => rfl
    | cons z zs ih => show ((w.setCell ⟨b, o, none⟩ z).setCells b (o + 1) zs).heap.size = _; rw [ih, size_setCell]
/-- slices.Delete(s, 0, 1) on notes. -/
theorem delete0N (l : List T4) (B b off n cap : Nat) (w : World) (h : RowF EN B w (.slice (some ⟨b, off, none⟩) n cap) l) (hl : 0 < l.length) : Calls Try.prog 57 #[.slice (some ⟨b, off, none⟩) n cap, .int .i64 0, .int .i64 1] w fun e w' => e = .returned (.slice (some ⟨b, off, none⟩) (n - 1) cap) ∧ RowF EN B w' (.slice (some ⟨b, off, none⟩) (n - 1) cap) (l.drop 1) ∧
    (∀ c i, ((⟨c, 0, none⟩ : Addr) = ⟨b, 0, none⟩) = False → w'.cell? ⟨c, i, none⟩ = w.cell? ⟨c, i, none⟩) ∧ (∀ c i, w'.frozen? ⟨c, i, none⟩ = w.frozen? ⟨c, i, none⟩) ∧ w'.heap.size = w.heap.size ∧ Below B w w' := by
  cases l with
  | nil => simp at hl
  | cons x r =>
    have hn : n = r.length + 1 := by obtain ⟨A, c, e⟩ := rowF_shape h; injection e
    subst hn
    refine (delete0N_of x r B b off cap w h).mono ?_
    rintro e w' ⟨rfl, h1, hB, o1, z1, o2, z2, rfl⟩
    have k1 := setCells_keeps w.drew b o1 z1
    have k2 := setCells_keeps (w.drew.setCells b o1 z1) b o2 z2
    refine ⟨rfl, h1, fun c i hc => (k2.1 c i hc).trans (k1.1 c i hc), fun c i => ?_, k2.2.trans k1.2, ?_⟩
    · rw [World.frozen?_setCells, World.frozen?_setCells]; rfl
    · exact Go.below_setCells hB _ _ _ (Go.below_setCells hB _ _ _ (Below.drew (Below.refl _ _)))
end Go.Proofs.Ytlanbgpmmlnehaa
