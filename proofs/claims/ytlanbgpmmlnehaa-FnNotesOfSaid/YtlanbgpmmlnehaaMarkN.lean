/- Notes: 'markText', 'markNoteS' and 'heldNoteS' of the exact laws. -/
import Derived.Test.YtlanbgpmmlnehaaDelF
import Derived.Test.YtlanbgpmmlnehaaToNote
import Derived.Lib.BufferOwn
import Derived.Deep.RegionHeld3
import Derived.Deep.AppendLies
import Derived.Test.YtlanbgpmmlnehaaMarkT
set_option linter.unusedSimpArgs false
set_option linter.unusedVariables false
set_option linter.unusedSectionVars false
namespace Go.Proofs.Ytlanbgpmmlnehaa
open Go.RowKit

section
variable {α : Type} {E : Lay α} {w w' : World} {l m : List α} {v u : Value} {B C : Nat}
/-- One cell of element i is written. -/
theorem rowF_put1 {b off n cap i c : Nat} {x y : α} {z : Value} (h : RowF E B w (.slice (some ⟨b, off, none⟩) n cap) l) (hx : l[i]? = some x) (hc : c < E.z) (hy : E.put y = (E.put x).set c z) : RowF E B (w.setCell ⟨b, off + i * E.z + c, none⟩ z) (.slice (some ⟨b, off, none⟩) n cap) (l.set i y) := by
  have hi : i < l.length := (List.getElem?_eq_some_iff.1 hx).1
  obtain ⟨A', cap', e, h1, h2, h3⟩ := h
  injection e with e1 e2 e3
  subst e1 e2 e3
  have hs : w.setCell ⟨b, off + i * E.z + c, none⟩ z = w.setCells b (off + i * E.z + c) [z] := rfl
  rcases h3 with ⟨e, _⟩ | ⟨b', off', e, hB, hlt, hat, hw⟩
  · cases e
  · cases e
    have hle : (i + 1) * E.z ≤ cap * E.z := Nat.mul_le_mul_right _ (by omega)
    rw [Nat.add_mul] at hle
    have hin : ∀ k, k < [z].length → (w.cell? ⟨b, off + i * E.z + c + k, none⟩).isSome = true := fun k hk => by
      have hk : k < 1 := hk
      have := (hw (i * E.z + (c + k)) (by omega)).1
      rw [← Nat.add_assoc, ← Nat.add_assoc] at this; exact this
    refine ⟨_, cap, by rw [List.length_set], by rw [List.length_set]; exact h1, h2, .inr ⟨b, off, rfl, hB, by rw [size_setCell]; exact hlt, fun k y' hy' d u hu => ?_, fun k hk => ?_⟩⟩
    · have hd : d < E.z := by rw [← E.len y']; exact (List.getElem?_eq_some_iff.1 hu).1
      rw [hs]
      by_cases hk : k = i
      · subst hk
        rw [List.getElem?_set_self hi] at hy'
        injection hy' with hy'
        subst hy'
        rw [hy, List.getElem?_set] at hu
        by_cases hcd : c = d
        · subst hcd
          rw [if_pos rfl, if_pos (by rw [E.len]; exact hc)] at hu
          injection hu with hu
          subst hu
          have := World.cell?_setCells_in b [z] (off + k * E.z + c) w hin 0 (by simp)
          simpa using this
        · rw [if_neg hcd] at hu
          rw [World.cell?_setCells_out b _ _ _ _ (fun _ _ => by
            show off + k * E.z + d < off + k * E.z + c ∨ off + k * E.z + c + 1 ≤ off + k * E.z + d
            omega)]
          exact hat k x hx d u hu
      · rw [List.getElem?_set_ne (fun e => hk e.symm)] at hy'
        rw [World.cell?_setCells_out b _ _ _ _ (fun _ _ => by
          show off + k * E.z + d < off + i * E.z + c ∨ off + i * E.z + c + 1 ≤ off + k * E.z + d
          rcases Nat.lt_or_gt_of_ne hk with h | h
          · have : (k + 1) * E.z ≤ i * E.z := Nat.mul_le_mul_right _ h
            rw [Nat.add_mul] at this; left; omega
          · have : (i + 1) * E.z ≤ k * E.z := Nat.mul_le_mul_right _ h
            rw [Nat.add_mul] at this; right; omega)]
        exact hat k y' hy' d u hu
    · obtain ⟨k1, k2⟩ := hw k hk
      rw [hs]
      exact ⟨World.isSome_setCells b _ _ _ _ k1, by rw [World.frozen?_setCells]; exact k2⟩
theorem rowF_kept {row : Option Nat} (h : RowF E B w v l) (hg : w.grownBy w' row) (hne : v.ownBlock = none ∨ v.ownBlock ≠ row) : RowF E B w' v l := by
  obtain ⟨A, cap, rfl, h1, h2, h3⟩ := h
  refine ⟨A, cap, rfl, h1, h2, h3.imp id fun ⟨b, off, e, hB, hlt, hat, hw⟩ => ⟨b, off, e, hB, Nat.lt_of_lt_of_le hlt hg.size, ?_, fun j hj => ?_⟩⟩
  all_goals
    subst e
    have hne : some b ≠ row := fun e => hne.elim (fun h => by cases h) (fun h => h (by rw [← e]; rfl))
  · intro i x hx j u hu
    rw [hg.cell_far ⟨b, _, none⟩ hlt hne]
    exact hat i x hx j u hu
  · obtain ⟨k1, k2⟩ := hw j hj
    exact ⟨by rw [hg.cell_far ⟨b, _, none⟩ hlt hne]; exact k1, by rw [hg.frozen_far ⟨b, _, none⟩ hlt hne]; exact k2⟩
theorem rowF_blk (h : RowF E B w v l) : ∀ j, v.ownBlock = some j → B ≤ j ∧ j < w.heap.size := by
  obtain ⟨A, cap, rfl, h1, h2, h3⟩ := h
  intro j hj
  rcases h3 with ⟨rfl, _⟩ | ⟨b, off, rfl, hB, hlt, _⟩
  · cases hj
  · cases hj; exact ⟨hB, hlt⟩
/-- What was there in an elder world lies apart from what was made later. -/
theorem rowF_apart {w0 : World} (h0 : RowF E B w0 v l) (h2 : RowF E C w u m) (hC : w0.heap.size ≤ C) : (v.ownBlock = none ∨ v.ownBlock ≠ u.ownBlock) ∧ (u.ownBlock = none ∨ u.ownBlock ≠ v.ownBlock) := by
  cases e : v.ownBlock with
  | none => exact ⟨.inl rfl, by cases e2 : u.ownBlock with | none => exact .inl rfl | some k => exact .inr (by simp)⟩
  | some k =>
    have a := rowF_blk h0 k e
    refine ⟨.inr fun e2 => ?_, ?_⟩
    · have b := rowF_blk h2 k e2.symm
      omega
    · cases e2 : u.ownBlock with
      | none => exact .inl rfl
      | some k2 =>
        refine .inr fun e3 => ?_
        injection e3 with e3
        subst e3
        have b := rowF_blk h2 k2 e2
        omega
end
theorem rowF_own4 {B : Nat} {w : World} {v : Value} {l : List T4} (h : Own4 B w v l) : RowF EN B w v l := by
  have hs := slG_of4 (own4_sl h)
  rcases h.2 with ⟨rfl, h0⟩ | ⟨g, c, cur, rfl, hB, hg, h1, h2, h3, h4⟩
  · exact ⟨none, 0, by rw [h0], by omega, by decide, .inl ⟨rfl, List.length_eq_zero_iff.1 h0, rfl⟩⟩
  · obtain ⟨A', c', e, _, _, h5⟩ := hs
    injection e with e1 _ e3
    subst e1 e3
    have hlt : g < w.heap.size := by
      rcases Nat.lt_or_ge g w.heap.size with h | h
      · exact h
      · rw [Array.getElem?_eq_none h] at hg; cases hg
    refine ⟨_, c, rfl, h1, h2, .inr ⟨g, 0, rfl, hB, hlt, ?_, fun j hj => ?_⟩⟩
    · rcases h5 with h5 | ⟨b, off, e, _, hat⟩
      · subst h5; intro i x hx; simp at hx
      · cases e; exact hat
    · rw [Nat.zero_add]
      have hj : j < c * 4 := hj
      refine ⟨?_, h.frozenAt j⟩
      rw [cell_of_row w g j cur 49 (0, 0) hg, Array.getElem?_eq_getElem (by omega)]; rfl
theorem markText_z (z : Int) (w : World) (h0 : 0 < z) (h : z ≤ 1000000000) : Calls Try.prog 63 #[.int .i64 z] w fun e w' => e = .returned (.string (markTx z.toNat)) ∧ Below w.heap.size w w' := by
  have := markText_of z.toNat w (by omega) (by omega)
  rwa [show ((z.toNat : Nat) : Int) = z by omega] at this
def mkT (i : Nat) : T4 := (1 + 4 * (i : Int), 1 + 4 * (i : Int) + 1, markTx (1 + 4 * (i : Int) + 1 + 1).toNat, 1 + 4 * (i : Int) + 1 + 1 + 1)
def mkL (n : Nat) : List T4 := (List.range n).map mkT
theorem mkL_len (n : Nat) : (mkL n).length = n := by unfold mkL; simp
theorem mkL_at {n i : Nat} (h : i < n) : (mkL n)[i]? = some (mkT i) := by unfold mkL; simp [h]
theorem mkL_succ (n : Nat) : mkL (n + 1) = mkL n ++ [mkT n] := by unfold mkL; rw [List.range_succ, List.map_append]; rfl
set_option maxHeartbeats 1000000 in
theorem markN_of (B : Nat) (v : Value) (l : List T4) (w : World) (h0 : RowF EN B w v l) (hm : l.length ≤ 1048576) : Calls Try.prog 37 #[v, .int .i64 1] w fun e w' => e = .returned (.int .i64 (1 + 4 * (l.length : Int))) ∧ RowF EN B w' v (mkL l.length) ∧ w.grownBy w' v.ownBlock := by
  obtain ⟨A, cap, rfl⟩ := rowF_shape h0
  have hcap := (rowF_sl h0).caps
  have hc1 := hcap.1
  have hc2 := hcap.2
  have H0 := Lib.hid h0
  clear h0 hcap
  go_enter Try.func37, Try.ntmps37
  go_wp2
  go_loopw [5, 1] (fun i k wr => ∃ (j : Nat) (L : List T4), j ≤ l.length ∧ i = .int .i64 j ∧ k = .int .i64 (1 + 4 * (j : Int)) ∧ L.length = l.length ∧ L.take j = mkL j ∧ RowF EN B wr (.slice A l.length cap) L ∧ w.grownBy wr (Value.slice A l.length cap).ownBlock) (fun i _ _ => l.length - (intOf i).toNat)
  case atStart => exact ⟨0, l, Nat.zero_le _, rfl, rfl, rfl, by simp [mkL], H0.out, World.grownBy.refl _ _⟩
  case round =>
    obtain ⟨j, L, hj, rfl, rfl, hLl, hLt, hrow, hgr⟩ := hrel
    have HLl := Lib.hid hLl
    have HLt := Lib.hid hLt
    have Hrow := Lib.hid hrow
    have Hg := Lib.hid hgr
    clear hLl hLt hrow hgr
    by_cases hlt : j < l.length
    · obtain ⟨b, off, rfl⟩ : ∃ b off, A = some ⟨b, off, none⟩ := by
        obtain ⟨A', c', e, _, _, h3⟩ := Hrow.out
        injection e with e1 _ _
        rcases h3 with ⟨_, hx, _⟩ | ⟨b, off, e2, _⟩
        · subst hx; have := HLl.out; simp at this; omega
        · exact ⟨b, off, e1.trans e2⟩
      have hbw : b < wr.heap.size := (rowF_blk Hrow.out b rfl).2
      have hzs := fun c (hc : c < 4) => rowF_spot (j := j * 4 + c) Hrow.out (by show _ < l.length * 4; omega)
      obtain ⟨⟨z0, r0⟩, f0⟩ := hzs 0 (by decide)
      obtain ⟨⟨z1, r1⟩, f1⟩ := hzs 1 (by decide)
      obtain ⟨⟨z2, r2⟩, f2⟩ := hzs 2 (by decide)
      obtain ⟨⟨z3, r3⟩, f3⟩ := hzs 3 (by decide)
      rw [← Nat.add_assoc] at r0 f0 r1 f1 r2 f2 r3 f3
      rw [Nat.add_zero] at r0 f0
      have e1 : IntKind.i64.wrap (1 + 4 * (j : Int) + 1) = 1 + 4 * (j : Int) + 1 := IntWalk.i64_in _ (by omega)
      have e2 : IntKind.i64.wrap (1 + 4 * (j : Int) + 1 + 1) = 1 + 4 * (j : Int) + 1 + 1 := IntWalk.i64_in _ (by omega)
      have e3 : IntKind.i64.wrap (1 + 4 * (j : Int) + 1 + 1 + 1) = 1 + 4 * (j : Int) + 1 + 1 + 1 := IntWalk.i64_in _ (by omega)
      have e4 : IntKind.i64.wrap (1 + 4 * (j : Int) + 1 + 1 + 1 + 1) = 1 + 4 * (j : Int) + 1 + 1 + 1 + 1 := IntWalk.i64_in _ (by omega)
      clear hzs
      go_wp2_with (go_at_call 63; refine (markText_z _ _ (by omega) (by omega)).mono ?_; rintro e w' ⟨rfl, hb⟩; obtain ⟨d1, os1, rfl⟩ := ext_of_below hb; clear hb)
      go_roundw
      case rel =>
        have hjL : j < L.length := by rw [HLl.out]; exact hlt
        have s1 := rowF_put1 (i := j) (c := 0) (y := (1 + 4 * (j : Int), (L[j]).2.1, (L[j]).2.2.1, (L[j]).2.2.2)) (z := .int .i64 (1 + 4 * (j : Int))) Hrow.out (List.getElem?_eq_getElem hjL) (by decide) rfl
        have s2 := rowF_put1 (i := j) (c := 1) (y := (1 + 4 * (j : Int), 1 + 4 * (j : Int) + 1, (L[j]).2.2.1, (L[j]).2.2.2)) (z := .int .i64 (1 + 4 * (j : Int) + 1)) s1 (List.getElem?_set_self hjL) (by decide) rfl
        rw [List.set_set] at s2
        have s3 := rowF_put1 (i := j) (c := 2) (y := (1 + 4 * (j : Int), 1 + 4 * (j : Int) + 1, markTx (1 + 4 * (j : Int) + 1 + 1).toNat, (L[j]).2.2.2)) (z := .string (markTx (1 + 4 * (j : Int) + 1 + 1).toNat)) s2 (List.getElem?_set_self hjL) (by decide) rfl
        rw [List.set_set] at s3
        have s4 := rowF_put1 (i := j) (c := 3) (y := mkT j) (z := .int .i64 (1 + 4 * (j : Int) + 1 + 1 + 1)) s3 (List.getElem?_set_self hjL) (by decide) rfl
        rw [List.set_set] at s4
        refine ⟨j + 1, L.set j (mkT j), by omega, by go_num, by first | (congr 1; done) | (congr 1; omega), by rw [List.length_set]; exact HLl.out, ?_, rowF_below s4 (below_ext _ _ _), Lib.grownBy_below (Lib.grownBy_setB (Lib.grownBy_setB (Lib.grownBy_setB (Lib.grownBy_setB Hg.out _ _) _ _) _ _) _ _) (below_ext _ _ _)⟩
        rw [take_set L j _ hjL, HLt.out, mkL_succ]
      case measure => simp [intOf]; omega
    · have hj' : j = l.length := by omega
      go_wp2
      go_ret
      have hL : L = mkL l.length := by
        have h1 := HLt.out
        have h2 := HLl.out
        rw [hj'] at h1
        rwa [List.take_of_length_le (by omega)] at h1
      exact ⟨by rw [hj']; rfl, by rw [← hL]; exact Hrow.out, Hg.out⟩
set_option maxHeartbeats 1000000 in
theorem heldN_of (v : Value) (n : Nat) (w : World) (h0 : SlG EN w v (mkL n)) (hm : n ≤ 1048576) : Calls Try.prog 38 #[v, .int .i64 1] w fun e w' => e = .returned (.int .i64 (1 + 4 * (n : Int))) ∧ Below w.heap.size w w' := by
  obtain ⟨A, cap, rfl⟩ := h0.shape
  have hcap := h0.caps
  rw [mkL_len] at hcap ⊢
  have hc1 := hcap.1
  have hc2 := hcap.2
  have H0 := Lib.hid h0
  clear h0 hcap
  go_enter Try.func38, Try.ntmps38
  go_wp2
  go_loopw [5, 1] (fun i k wr => ∃ j : Nat, j ≤ n ∧ i = .int .i64 j ∧ k = .int .i64 (1 + 4 * (j : Int)) ∧ Below w.heap.size w wr) (fun i _ _ => n - (intOf i).toNat)
  case atStart => exact ⟨0, Nat.zero_le _, rfl, rfl, Below.refl _ _⟩
  case round =>
    obtain ⟨j, hj, rfl, rfl, hbl⟩ := hrel
    have Hbl := Lib.hid hbl
    by_cases hlt : j < n
    · obtain ⟨b, off, e, hb, hat⟩ := (H0.out.below hbl).at_ (mkL_at hlt)
      cases e
      have x0 : wr.cell? ⟨b, off + j * 4, none⟩ = some (.int .i64 (1 + 4 * (j : Int))) := hat 0 _ rfl
      have x1 : wr.cell? ⟨b, off + j * 4 + 1, none⟩ = some (.int .i64 (1 + 4 * (j : Int) + 1)) := hat 1 _ rfl
      have x2 : wr.cell? ⟨b, off + j * 4 + 2, none⟩ = some (.string (markTx (1 + 4 * (j : Int) + 1 + 1).toNat)) := hat 2 _ rfl
      have x3 : wr.cell? ⟨b, off + j * 4 + 3, none⟩ = some (.int .i64 (1 + 4 * (j : Int) + 1 + 1 + 1)) := hat 3 _ rfl
      have e1 : IntKind.i64.wrap (1 + 4 * (j : Int) + 1) = 1 + 4 * (j : Int) + 1 := IntWalk.i64_in _ (by omega)
      have e2 : IntKind.i64.wrap (1 + 4 * (j : Int) + 1 + 1) = 1 + 4 * (j : Int) + 1 + 1 := IntWalk.i64_in _ (by omega)
      have e3 : IntKind.i64.wrap (1 + 4 * (j : Int) + 1 + 1 + 1) = 1 + 4 * (j : Int) + 1 + 1 + 1 := IntWalk.i64_in _ (by omega)
      have e4 : IntKind.i64.wrap (1 + 4 * (j : Int) + 1 + 1 + 1 + 1) = 1 + 4 * (j : Int) + 1 + 1 + 1 + 1 := IntWalk.i64_in _ (by omega)
      have hwz := hbl.size
      clear hat hbl
      obtain ⟨s, hs⟩ : ∃ s, s = markTx (1 + 4 * (j : Int) + 1 + 1).toNat := ⟨_, rfl⟩
      rw [← hs] at x2
      have Hs := Lib.hid hs
      clear hs
      go_wp2_with fail
      go_region_held3 (fun w' => w'.cell? ⟨b, off + j * 4 + 2, none⟩ = some (.string s)) (first | assumption | (go_simp; done) | fail) (first | (go_at_call 63; refine (markText_z _ _ (by omega) (by omega)).mono ?_; rintro e w' ⟨rfl, hb⟩; obtain ⟨d1, os1, rfl⟩ := ext_of_below hb; clear hb; rw [← Hs.out]))
      go_wp2_with fail
      go_roundw
      case rel => exact ⟨j + 1, by omega, by go_num, by first | (congr 1; done) | (congr 1; omega), (by (repeat (first | exact Below.refl _ _ | exact Hbl.out | refine Below.ext ?_ (by first | omega | (simp; omega) | simp) | refine Below.setCell ?_ (by first | omega | (simp; omega) | simp) _ | refine Below.alloc ?_ (by first | omega | (simp; omega) | simp) _ | refine Below.drew ?_ | refine below_drewN ?_ _ | refine Below.step (by assumption) (by first | omega | (simp; omega) | simp) ?_)))⟩
      case measure => simp [intOf]; omega
    · have hj' : j = n := by omega
      subst hj'
      clear hbl
      go_wp2
      go_ret
      exact ⟨rfl, Hbl.out⟩
theorem eqNoteS_of (u v : Value) (l : List T4) (w : World) (hu : Sl4 w u l) (hv : Sl4 w v l) : Calls Try.prog 34 #[u, v] w fun e w' => e = .returned (.bool true) ∧ Below w.heap.size w w' := by
  obtain ⟨A, c, rfl, h1, h2, h3⟩ := hu
  obtain ⟨A', c', rfl, k1, k2, k3⟩ := hv
  exact eqNoteS_any A A' c c' l w h1 h2 h3 k3
end Go.Proofs.Ytlanbgpmmlnehaa
