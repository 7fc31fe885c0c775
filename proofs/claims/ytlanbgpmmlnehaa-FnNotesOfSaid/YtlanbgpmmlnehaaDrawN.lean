/- An audit, a user and whether faults alone are asked for: what is drawn for NotesOf. -/
import Derived.Test.YtlanbgpmmlnehaaDrawA
import Derived.Deep.RegionHeld3
set_option linter.unusedSimpArgs false
set_option linter.unusedVariables false
set_option linter.unusedSectionVars false
namespace Go.Proofs.Ytlanbgpmmlnehaa
open Go.RowKit

theorem selN2l (v : Int) (x0 x1 : Int) (h : v.toNat < [Value.int .i64 x0, Value.int .i64 x1].length) : [Value.int .i64 x0, Value.int .i64 x1][v.toNat]'h = .int .i64 (selN v [x0, x1]) := by
  have h' : v.toNat < 2 := h
  have : v.toNat = 0 ∨ v.toNat = 1 := by omega
  rcases this with h | h <;> simp [h, selN]
@[go_sem] theorem selN2g (v : Int) (x0 x1 : Int) (h : v.toNat < [Value.int .i64 x0, Value.int .i64 x1].length) : [Value.int .i64 x0, Value.int .i64 x1][v.toNat]'h = .int .i64 (selN v [x0, x1]) := selN2l v x0 x1 h
@[go_sem] theorem selN2 {v : Int} (h0 : 0 ≤ v) (h1 : v < 2) (x0 x1 : Int) : [Value.int .i64 x0, Value.int .i64 x1][v.toNat]? = some (.int .i64 (selN v [x0, x1])) := by
  have hl : v.toNat < [Value.int .i64 x0, Value.int .i64 x1].length := by simp; omega
  rw [List.getElem?_eq_getElem hl, selN2l]
@[go_sem] theorem selN2a {v : Int} (h0 : 0 ≤ v) (h1 : v < 2) (x0 x1 : Int) : (#[Value.int .i64 x0, Value.int .i64 x1] : Array Value)[v.toNat]? = some (.int .i64 (selN v [x0, x1])) := by
  rw [List.getElem?_toArray]; exact selN2 h0 h1 x0 x1
def GotNO (w : World) (e : Ending) (w' : World) : Prop := ∃ v l nx who f, e = .returned (.tuple #[.agg #[v, .int .i64 nx], .int .i64 who, .bool f]) ∧ l.length ≤ 11 ∧ Txt l ∧ SlG EN w' v l ∧ Below w.heap.size w w'
set_option maxRecDepth 100000 in
set_option maxHeartbeats 8000000 in
theorem drawNO_any (a : Option Addr) (len cap : Nat) (zs : List Int) (w : World) (hrow : IsRow .u8 w a len cap zs) : Calls Try.prog 29 #[.slice a len cap] w (GotNO w) := by
  go_enter Try.func29, Try.ntmps29
  go_wp2_with (go_at_call 40; refine (open_any _ _ _ _ _ (IsRow.below hrow (by repeat (first | exact Below.refl _ _ | refine Below.alloc ?_ (by simp; try omega) _)))).mono ?_; rintro e w' ⟨A, le, ca, rfl, rfl, zs', hby⟩; (try simp only [World.size_alloc] at hby))
  refine (l20Audit_any _ ?_ 9 _ ?_ ?_ (by decide) (by decide)).mono ?_; rotate_left; (focus ((repeat (first | assumption | refine Rd.ext ?_ | refine Rd.drew ?_ | refine Rd.drewN ?_ | refine Rd.set (by assumption) ?_ | refine Rd.lit (by assumption) (by simp) ?_ | refine Rd.alloc ?_ _ | omega)))); (focus omega); rintro e w' ⟨v, l, nx, q, d, os, rfl, q1, q2, hl, hx, rfl, hown⟩
  have hrd0 : Rd ((w.alloc (.cells #[.slice none 0 0, .int .i64 0] 39)).alloc (.cells #[.slice A le ca, .int .i64 0] 84)) (w.heap.size + 1) 0 := by (repeat (first | assumption | refine Rd.ext ?_ | refine Rd.drew ?_ | refine Rd.drewN ?_ | refine Rd.set (by assumption) ?_ | refine Rd.lit (by assumption) (by simp) ?_ | refine Rd.alloc ?_ _ | omega))
  have hrd := Rd.ext (d := d) (os := os) (Rd.set (q := q) hrd0 (by omega))
  have hbw : Below w.heap.size w (ext (((w.alloc (.cells #[.slice none 0 0, .int .i64 0] 39)).alloc (.cells #[.slice A le ca, .int .i64 0] 84)).setCell ⟨w.heap.size + 1, 1, none⟩ (.int .i64 q)) d os) := (by (repeat (first | exact Below.refl _ _ | exact Hbl.out | refine Below.ext ?_ (by first | omega | (simp; omega) | simp) | refine Below.setCell ?_ (by first | omega | (simp; omega) | simp) _ | refine Below.alloc ?_ (by first | omega | (simp; omega) | simp) _ | refine Below.drew ?_ | refine below_drewN ?_ _ | refine Below.step (by assumption) (by first | omega | (simp; omega) | simp) ?_)))
  have hz : w.heap.size + 1 < (ext (((w.alloc (.cells #[.slice none 0 0, .int .i64 0] 39)).alloc (.cells #[.slice A le ca, .int .i64 0] 84)).setCell ⟨w.heap.size + 1, 1, none⟩ (.int .i64 q)) d os).heap.size := by simp; omega
  have c0 : (ext (((w.alloc (.cells #[.slice none 0 0, .int .i64 0] 39)).alloc (.cells #[.slice A le ca, .int .i64 0] 84)).setCell ⟨w.heap.size + 1, 1, none⟩ (.int .i64 q)) d os).cell? ⟨w.heap.size, 0, none⟩ = some (.slice none 0 0) := by go_simp
  have c1 : (ext (((w.alloc (.cells #[.slice none 0 0, .int .i64 0] 39)).alloc (.cells #[.slice A le ca, .int .i64 0] 84)).setCell ⟨w.heap.size + 1, 1, none⟩ (.int .i64 q)) d os).cell? ⟨w.heap.size, 1, none⟩ = some (.int .i64 0) := by go_simp
  have e0 : (ext (((w.alloc (.cells #[.slice none 0 0, .int .i64 0] 39)).alloc (.cells #[.slice A le ca, .int .i64 0] 84)).setCell ⟨w.heap.size + 1, 1, none⟩ (.int .i64 q)) d os).frozen? ⟨w.heap.size, 0, none⟩ = false := by go_simp
  have e1 : (ext (((w.alloc (.cells #[.slice none 0 0, .int .i64 0] 39)).alloc (.cells #[.slice A le ca, .int .i64 0] 84)).setCell ⟨w.heap.size + 1, 1, none⟩ (.int .i64 q)) d os).frozen? ⟨w.heap.size, 1, none⟩ = false := by go_simp
  have hown' : RowF EN (w.heap.size + 2) _ v l := rowF_mono hown (by simp)
  clear hown hrd0
  generalize (ext (((w.alloc (.cells #[.slice none 0 0, .int .i64 0] 39)).alloc (.cells #[.slice A le ca, .int .i64 0] 84)).setCell ⟨w.heap.size + 1, 1, none⟩ (.int .i64 q)) d os) = W at hrd hbw hz c0 c1 e0 e1 hown' ⊢
  obtain ⟨R, hR⟩ : ∃ R, R = w.heap.size + 1 := ⟨_, rfl⟩
  rw [← hR] at hrd
  simp only [← hR]
  obtain ⟨Av, cv, rfl⟩ := rowF_shape hown'
  have hblk := row_block hown'
  have Hown := Lib.hid hown'
  have Hblk := Lib.hid hblk
  have Hbw := Lib.hid hbw
  have hRW : R < W.heap.size := hrd.lt
  have hRne : w.heap.size ≠ R := by omega
  have hRB : R < w.heap.size + 2 := by omega
  have hRge : w.heap.size ≤ R := by omega
  have hz' : w.heap.size < W.heap.size := by omega
  clear hown' hbw hblk hR hz
  go_wp2_with fail
  refine wp_region_noPanic ?_
  refine wp_region_held_drew (S := (fun w' => w'.cell? ⟨W.heap.size, 0, none⟩ = some (.slice Av l.length cv) ∧ w'.cell? ⟨W.heap.size, 1, none⟩ = some (.int .i64 nx))) (by kernel_rfl) ?_ (fun hHeld => ?_)
  · (try dsimp only)
    (refine ⟨?_, ?_⟩) <;> (first | assumption | (go_simp; done) | fail)
  refine wpAnyH_take (i := 0) (v := ?_) rfl (by kernel_rfl) (by kernel_rfl) (by kernel_rfl) (fun _ _ _ h => h) (Or.inl ⟨by rfl, ?_⟩) (by assumption) ?_
  rotate_left
  · intro w hSw
    (try dsimp only at hSw)
    go_simp
    try with_reducible rfl
  try simp only [Act.put, List.setIfInBounds_toArray, List.set_cons_zero, List.set_cons_succ]
  refine wpAnyH_take (i := 1) (v := ?_) rfl (by kernel_rfl) (by kernel_rfl) (by kernel_rfl) (fun _ _ _ h => h) (Or.inl ⟨by rfl, ?_⟩) (by assumption) ?_
  rotate_left
  · intro w hSw
    (try dsimp only at hSw)
    go_simp
    try with_reducible rfl
  try simp only [Act.put, List.setIfInBounds_toArray, List.set_cons_zero, List.set_cons_succ]
  refine wpAnyH_take (i := 4) (v := ?_) rfl (by kernel_rfl) (by kernel_rfl) (by kernel_rfl) (fun _ _ _ h => h) (Or.inl ⟨by rfl, ?_⟩) (by assumption) ?_
  rotate_left
  · intro w hSw
    (try dsimp only at hSw)
    go_simp
    try with_reducible rfl
  try simp only [Act.put, List.setIfInBounds_toArray, List.set_cons_zero, List.set_cons_succ]
  refine wpAnyH_take (i := 8) (v := ?_) rfl (by kernel_rfl) (by kernel_rfl) (by kernel_rfl) (fun _ _ _ h => h) (Or.inl ⟨by rfl, ?_⟩) (by assumption) ?_
  rotate_left
  · intro w hSw
    (try dsimp only at hSw)
    go_simp
    try with_reducible rfl
  try simp only [Act.put, List.setIfInBounds_toArray, List.set_cons_zero, List.set_cons_succ]
  refine wpAnyH_ready (rs := [2]) (by kernel_rfl) (by simp) ?_
  refine AllReadyH.cons rfl (fun K hK => ?_) AllReadyH.nil
  go_simp
  first | (go_at_call 54; refine (l20User_drew _ ?_ _ ?_ ?_).mono ?_; rotate_left; (focus ((repeat (first | assumption | refine Rd.ext ?_ | refine Rd.drew ?_ | refine Rd.drewN ?_ | refine Rd.set (by assumption) ?_ | refine Rd.lit (by assumption) (by simp) ?_ | refine Rd.alloc ?_ _ | omega)))); (focus omega); rintro e w' ⟨_, q5, d5, os5, rfl, k1, k2, ⟨x5, rfl⟩, rfl⟩) | (have hvA := vA; clear hvA; (go_at_call 42; refine (pick_any _ ?_ _ _ ?_ ?_).mono ?_; rotate_left; (focus ((repeat (first | assumption | refine Rd.ext ?_ | refine Rd.drew ?_ | refine Rd.drewN ?_ | refine Rd.set (by assumption) ?_ | refine Rd.lit (by assumption) (by simp) ?_ | refine Rd.alloc ?_ _ | omega)))); (focus omega); rintro e w' ⟨vB, dvB, rfl, h0vB, h1vB, h2vB, rfl⟩; replace h1vB := h1vB (by omega); clear h2vB)) | (go_at_call 42; refine (pick_any _ ?_ _ _ ?_ ?_).mono ?_; rotate_left; (focus ((repeat (first | assumption | refine Rd.ext ?_ | refine Rd.drew ?_ | refine Rd.drewN ?_ | refine Rd.set (by assumption) ?_ | refine Rd.lit (by assumption) (by simp) ?_ | refine Rd.alloc ?_ _ | omega)))); (focus omega); rintro e w' ⟨vA, dvA, rfl, h0vA, h1vA, h2vA, rfl⟩; replace h1vA := h1vA (by omega); clear h2vA)
  refine hK.out _ _ ?_ (fun hHeld => ?_)
  · (try dsimp only)
    (refine ⟨?_, ?_⟩) <;> (first | assumption | (go_simp; done) | fail)
  clear hK K
  try simp only [Act.put, List.setIfInBounds_toArray, List.set_cons_zero, List.set_cons_succ]
  refine wpAnyH_ready (rs := [3, 5]) (by kernel_rfl) (by simp) ?_
  refine AllReadyH.cons rfl (fun K hK => ?_) ?_
  · skip
    go_simp
    try (go_wp2_with fail)
    refine hK.out _ _ ?_ (fun hHeld => ?_)
    · (try dsimp only)
      (refine ⟨?_, ?_⟩) <;> (first | assumption | (go_simp; done) | fail)
    clear hK K
    try simp only [Act.put, List.setIfInBounds_toArray, List.set_cons_zero, List.set_cons_succ]
    refine wpAnyH_ready (rs := [5]) (by kernel_rfl) (by simp) ?_
    refine AllReadyH.cons rfl (fun K hK => ?_) AllReadyH.nil
    go_simp
    first | (go_at_call 54; refine (l20User_drew _ ?_ _ ?_ ?_).mono ?_; rotate_left; (focus ((repeat (first | assumption | refine Rd.ext ?_ | refine Rd.drew ?_ | refine Rd.drewN ?_ | refine Rd.set (by assumption) ?_ | refine Rd.lit (by assumption) (by simp) ?_ | refine Rd.alloc ?_ _ | omega)))); (focus omega); rintro e w' ⟨_, q5, d5, os5, rfl, k1, k2, ⟨x5, rfl⟩, rfl⟩) | (have hvA := vA; clear hvA; (go_at_call 42; refine (pick_any _ ?_ _ _ ?_ ?_).mono ?_; rotate_left; (focus ((repeat (first | assumption | refine Rd.ext ?_ | refine Rd.drew ?_ | refine Rd.drewN ?_ | refine Rd.set (by assumption) ?_ | refine Rd.lit (by assumption) (by simp) ?_ | refine Rd.alloc ?_ _ | omega)))); (focus omega); rintro e w' ⟨vB, dvB, rfl, h0vB, h1vB, h2vB, rfl⟩; replace h1vB := h1vB (by omega); clear h2vB)) | (go_at_call 42; refine (pick_any _ ?_ _ _ ?_ ?_).mono ?_; rotate_left; (focus ((repeat (first | assumption | refine Rd.ext ?_ | refine Rd.drew ?_ | refine Rd.drewN ?_ | refine Rd.set (by assumption) ?_ | refine Rd.lit (by assumption) (by simp) ?_ | refine Rd.alloc ?_ _ | omega)))); (focus omega); rintro e w' ⟨vA, dvA, rfl, h0vA, h1vA, h2vA, rfl⟩; replace h1vA := h1vA (by omega); clear h2vA)
    refine hK.out _ _ ?_ (fun hHeld => ?_)
    · (try dsimp only)
      (refine ⟨?_, ?_⟩) <;> (first | assumption | (go_simp; done) | fail)
    clear hK K
    try simp only [Act.put, List.setIfInBounds_toArray, List.set_cons_zero, List.set_cons_succ]
    refine wpAnyH_take (i := 6) (v := ?_) rfl (by kernel_rfl) (by kernel_rfl) (by kernel_rfl) (fun _ _ _ h => h) (Or.inl ⟨by rfl, ?_⟩) (by assumption) ?_
    rotate_left
    · intro w hSw
      (try dsimp only at hSw)
      go_simp
      try with_reducible rfl
    try simp only [Act.put, List.setIfInBounds_toArray, List.set_cons_zero, List.set_cons_succ]
    refine wpAnyH_ready (rs := [7, 9]) (by kernel_rfl) (by simp) ?_
    refine AllReadyH.cons rfl (fun K hK => ?_) ?_
    · skip
      go_simp
      try (go_wp2_with fail)
      refine hK.out _ _ ?_ (fun hHeld => ?_)
      · (try dsimp only)
        (refine ⟨?_, ?_⟩) <;> (first | assumption | (go_simp; done) | fail)
      clear hK K
      try simp only [Act.put, List.setIfInBounds_toArray, List.set_cons_zero, List.set_cons_succ]
      refine wpAnyH_ready (rs := [9]) (by kernel_rfl) (by simp) ?_
      refine AllReadyH.cons rfl (fun K hK => ?_) AllReadyH.nil
      go_simp
      first | (go_at_call 54; refine (l20User_drew _ ?_ _ ?_ ?_).mono ?_; rotate_left; (focus ((repeat (first | assumption | refine Rd.ext ?_ | refine Rd.drew ?_ | refine Rd.drewN ?_ | refine Rd.set (by assumption) ?_ | refine Rd.lit (by assumption) (by simp) ?_ | refine Rd.alloc ?_ _ | omega)))); (focus omega); rintro e w' ⟨_, q5, d5, os5, rfl, k1, k2, ⟨x5, rfl⟩, rfl⟩) | (have hvA := vA; clear hvA; (go_at_call 42; refine (pick_any _ ?_ _ _ ?_ ?_).mono ?_; rotate_left; (focus ((repeat (first | assumption | refine Rd.ext ?_ | refine Rd.drew ?_ | refine Rd.drewN ?_ | refine Rd.set (by assumption) ?_ | refine Rd.lit (by assumption) (by simp) ?_ | refine Rd.alloc ?_ _ | omega)))); (focus omega); rintro e w' ⟨vB, dvB, rfl, h0vB, h1vB, h2vB, rfl⟩; replace h1vB := h1vB (by omega); clear h2vB)) | (go_at_call 42; refine (pick_any _ ?_ _ _ ?_ ?_).mono ?_; rotate_left; (focus ((repeat (first | assumption | refine Rd.ext ?_ | refine Rd.drew ?_ | refine Rd.drewN ?_ | refine Rd.set (by assumption) ?_ | refine Rd.lit (by assumption) (by simp) ?_ | refine Rd.alloc ?_ _ | omega)))); (focus omega); rintro e w' ⟨vA, dvA, rfl, h0vA, h1vA, h2vA, rfl⟩; replace h1vA := h1vA (by omega); clear h2vA)
      refine hK.out _ _ ?_ (fun hHeld => ?_)
      · (try dsimp only)
        (refine ⟨?_, ?_⟩) <;> (first | assumption | (go_simp; done) | fail)
      clear hK K
      try simp only [Act.put, List.setIfInBounds_toArray, List.set_cons_zero, List.set_cons_succ]
      refine wpAnyH_take (i := 10) (v := ?_) rfl (by kernel_rfl) (by kernel_rfl) (by kernel_rfl) (fun _ _ _ h => h) (Or.inl ⟨by rfl, ?_⟩) (by assumption) ?_
      rotate_left
      · intro w hSw
        (try dsimp only at hSw)
        go_simp
        try with_reducible rfl
      try simp only [Act.put, List.setIfInBounds_toArray, List.set_cons_zero, List.set_cons_succ]
      refine wpAnyH_ready (rs := [11]) (by kernel_rfl) (by simp) ?_
      refine AllReadyH.cons rfl (fun K hK => ?_) AllReadyH.nil
      go_simp
      try (go_wp2_with fail)
      refine hK.out _ _ ?_ (fun hHeld => ?_)
      · (try dsimp only)
        (refine ⟨?_, ?_⟩) <;> (first | assumption | (go_simp; done) | fail)
      clear hK K
      try simp only [Act.put, List.setIfInBounds_toArray, List.set_cons_zero, List.set_cons_succ]
      refine wpAnyH_take (i := 12) (v := ?_) rfl (by kernel_rfl) (by kernel_rfl) (by kernel_rfl) (fun _ _ _ h => h) (Or.inl ⟨by rfl, ?_⟩) (by assumption) ?_
      rotate_left
      · intro w hSw
        (try dsimp only at hSw)
        go_simp
        try with_reducible rfl
      try simp only [Act.put, List.setIfInBounds_toArray, List.set_cons_zero, List.set_cons_succ]
      refine wpAnyH_take (i := 13) (v := ?_) rfl (by kernel_rfl) (by kernel_rfl) (by kernel_rfl) (fun _ _ _ h => h) (Or.inl ⟨by rfl, ?_⟩) (by assumption) ?_
      rotate_left
      · intro w hSw
        (try dsimp only at hSw)
        go_simp
        try with_reducible rfl
      try simp only [Act.put, List.setIfInBounds_toArray, List.set_cons_zero, List.set_cons_succ]
      refine wpAnyH_done (by kernel_rfl) ?_ _
      refine NoPanic.normal ?_
      try go_simp
      go_wp2_with fail
      refine bodyPost_ret (v := .tuple #[.agg #[.slice Av l.length cv, .int .i64 nx], .int .i64 (selN vA [-1, x5]), .bool (vB == 0)]) ?_ rfl ?_
      · simp only [results, Try.results29]
        go_simp
      · refine ⟨_, l, nx, _, _, rfl, hl, hx, rowF_sl (B := w.heap.size + 2) ?_, ?_⟩
        · repeat (first | exact Hown.out | refine rowF_setCell ?_ (fun j hj => by have := (Hblk.out j hj).1; omega) | refine rowF_ext ?_ | refine rowF_alloc ?_ _)
        · repeat (first | exact Hbw.out | refine Below.ext ?_ (by first | omega | (simp; omega) | simp) | refine Below.setCell ?_ (by first | omega | (simp; omega) | simp) _ | refine Below.alloc ?_ (by first | omega | (simp; omega) | simp) _)
    refine AllReadyH.cons rfl (fun K hK => ?_) AllReadyH.nil
    go_simp
    first | (go_at_call 54; refine (l20User_drew _ ?_ _ ?_ ?_).mono ?_; rotate_left; (focus ((repeat (first | assumption | refine Rd.ext ?_ | refine Rd.drew ?_ | refine Rd.drewN ?_ | refine Rd.set (by assumption) ?_ | refine Rd.lit (by assumption) (by simp) ?_ | refine Rd.alloc ?_ _ | omega)))); (focus omega); rintro e w' ⟨_, q5, d5, os5, rfl, k1, k2, ⟨x5, rfl⟩, rfl⟩) | (have hvA := vA; clear hvA; (go_at_call 42; refine (pick_any _ ?_ _ _ ?_ ?_).mono ?_; rotate_left; (focus ((repeat (first | assumption | refine Rd.ext ?_ | refine Rd.drew ?_ | refine Rd.drewN ?_ | refine Rd.set (by assumption) ?_ | refine Rd.lit (by assumption) (by simp) ?_ | refine Rd.alloc ?_ _ | omega)))); (focus omega); rintro e w' ⟨vB, dvB, rfl, h0vB, h1vB, h2vB, rfl⟩; replace h1vB := h1vB (by omega); clear h2vB)) | (go_at_call 42; refine (pick_any _ ?_ _ _ ?_ ?_).mono ?_; rotate_left; (focus ((repeat (first | assumption | refine Rd.ext ?_ | refine Rd.drew ?_ | refine Rd.drewN ?_ | refine Rd.set (by assumption) ?_ | refine Rd.lit (by assumption) (by simp) ?_ | refine Rd.alloc ?_ _ | omega)))); (focus omega); rintro e w' ⟨vA, dvA, rfl, h0vA, h1vA, h2vA, rfl⟩; replace h1vA := h1vA (by omega); clear h2vA)
    refine hK.out _ _ ?_ (fun hHeld => ?_)
    · (try dsimp only)
      (refine ⟨?_, ?_⟩) <;> (first | assumption | (go_simp; done) | fail)
    clear hK K
    try simp only [Act.put, List.setIfInBounds_toArray, List.set_cons_zero, List.set_cons_succ]
    refine wpAnyH_take (i := 10) (v := ?_) rfl (by kernel_rfl) (by kernel_rfl) (by kernel_rfl) (fun _ _ _ h => h) (Or.inl ⟨by rfl, ?_⟩) (by assumption) ?_
    rotate_left
    · intro w hSw
      (try dsimp only at hSw)
      go_simp
      try with_reducible rfl
    try simp only [Act.put, List.setIfInBounds_toArray, List.set_cons_zero, List.set_cons_succ]
    refine wpAnyH_ready (rs := [7, 11]) (by kernel_rfl) (by simp) ?_
    refine AllReadyH.cons rfl (fun K hK => ?_) ?_
    · skip
      go_simp
      try (go_wp2_with fail)
      refine hK.out _ _ ?_ (fun hHeld => ?_)
      · (try dsimp only)
        (refine ⟨?_, ?_⟩) <;> (first | assumption | (go_simp; done) | fail)
      clear hK K
      try simp only [Act.put, List.setIfInBounds_toArray, List.set_cons_zero, List.set_cons_succ]
      refine wpAnyH_ready (rs := [11]) (by kernel_rfl) (by simp) ?_
      refine AllReadyH.cons rfl (fun K hK => ?_) AllReadyH.nil
      go_simp
      try (go_wp2_with fail)
      refine hK.out _ _ ?_ (fun hHeld => ?_)
      · (try dsimp only)
        (refine ⟨?_, ?_⟩) <;> (first | assumption | (go_simp; done) | fail)
      clear hK K
      try simp only [Act.put, List.setIfInBounds_toArray, List.set_cons_zero, List.set_cons_succ]
      refine wpAnyH_take (i := 12) (v := ?_) rfl (by kernel_rfl) (by kernel_rfl) (by kernel_rfl) (fun _ _ _ h => h) (Or.inl ⟨by rfl, ?_⟩) (by assumption) ?_
      rotate_left
      · intro w hSw
        (try dsimp only at hSw)
        go_simp
        try with_reducible rfl
      try simp only [Act.put, List.setIfInBounds_toArray, List.set_cons_zero, List.set_cons_succ]
      refine wpAnyH_take (i := 13) (v := ?_) rfl (by kernel_rfl) (by kernel_rfl) (by kernel_rfl) (fun _ _ _ h => h) (Or.inl ⟨by rfl, ?_⟩) (by assumption) ?_
      rotate_left
      · intro w hSw
        (try dsimp only at hSw)
        go_simp
        try with_reducible rfl
      try simp only [Act.put, List.setIfInBounds_toArray, List.set_cons_zero, List.set_cons_succ]
      refine wpAnyH_done (by kernel_rfl) ?_ _
      refine NoPanic.normal ?_
      try go_simp
      go_wp2_with fail
      refine bodyPost_ret (v := .tuple #[.agg #[.slice Av l.length cv, .int .i64 nx], .int .i64 (selN vA [-1, x5]), .bool (vB == 0)]) ?_ rfl ?_
      · simp only [results, Try.results29]
        go_simp
      · refine ⟨_, l, nx, _, _, rfl, hl, hx, rowF_sl (B := w.heap.size + 2) ?_, ?_⟩
        · repeat (first | exact Hown.out | refine rowF_setCell ?_ (fun j hj => by have := (Hblk.out j hj).1; omega) | refine rowF_ext ?_ | refine rowF_alloc ?_ _)
        · repeat (first | exact Hbw.out | refine Below.ext ?_ (by first | omega | (simp; omega) | simp) | refine Below.setCell ?_ (by first | omega | (simp; omega) | simp) _ | refine Below.alloc ?_ (by first | omega | (simp; omega) | simp) _)
    refine AllReadyH.cons rfl (fun K hK => ?_) AllReadyH.nil
    go_simp
    try (go_wp2_with fail)
    refine hK.out _ _ ?_ (fun hHeld => ?_)
    · (try dsimp only)
      (refine ⟨?_, ?_⟩) <;> (first | assumption | (go_simp; done) | fail)
    clear hK K
    try simp only [Act.put, List.setIfInBounds_toArray, List.set_cons_zero, List.set_cons_succ]
    refine wpAnyH_ready (rs := [7]) (by kernel_rfl) (by simp) ?_
    refine AllReadyH.cons rfl (fun K hK => ?_) AllReadyH.nil
    go_simp
    try (go_wp2_with fail)
    refine hK.out _ _ ?_ (fun hHeld => ?_)
    · (try dsimp only)
      (refine ⟨?_, ?_⟩) <;> (first | assumption | (go_simp; done) | fail)
    clear hK K
    try simp only [Act.put, List.setIfInBounds_toArray, List.set_cons_zero, List.set_cons_succ]
    refine wpAnyH_take (i := 12) (v := ?_) rfl (by kernel_rfl) (by kernel_rfl) (by kernel_rfl) (fun _ _ _ h => h) (Or.inl ⟨by rfl, ?_⟩) (by assumption) ?_
    rotate_left
    · intro w hSw
      (try dsimp only at hSw)
      go_simp
      try with_reducible rfl
    try simp only [Act.put, List.setIfInBounds_toArray, List.set_cons_zero, List.set_cons_succ]
    refine wpAnyH_take (i := 13) (v := ?_) rfl (by kernel_rfl) (by kernel_rfl) (by kernel_rfl) (fun _ _ _ h => h) (Or.inl ⟨by rfl, ?_⟩) (by assumption) ?_
    rotate_left
    · intro w hSw
      (try dsimp only at hSw)
      go_simp
      try with_reducible rfl
    try simp only [Act.put, List.setIfInBounds_toArray, List.set_cons_zero, List.set_cons_succ]
    refine wpAnyH_done (by kernel_rfl) ?_ _
    refine NoPanic.normal ?_
    try go_simp
    go_wp2_with fail
    refine bodyPost_ret (v := .tuple #[.agg #[.slice Av l.length cv, .int .i64 nx], .int .i64 (selN vA [-1, x5]), .bool (vB == 0)]) ?_ rfl ?_
    · simp only [results, Try.results29]
      go_simp
    · refine ⟨_, l, nx, _, _, rfl, hl, hx, rowF_sl (B := w.heap.size + 2) ?_, ?_⟩
      · repeat (first | exact Hown.out | refine rowF_setCell ?_ (fun j hj => by have := (Hblk.out j hj).1; omega) | refine rowF_ext ?_ | refine rowF_alloc ?_ _)
      · repeat (first | exact Hbw.out | refine Below.ext ?_ (by first | omega | (simp; omega) | simp) | refine Below.setCell ?_ (by first | omega | (simp; omega) | simp) _ | refine Below.alloc ?_ (by first | omega | (simp; omega) | simp) _)
  refine AllReadyH.cons rfl (fun K hK => ?_) AllReadyH.nil
  go_simp
  first | (go_at_call 54; refine (l20User_drew _ ?_ _ ?_ ?_).mono ?_; rotate_left; (focus ((repeat (first | assumption | refine Rd.ext ?_ | refine Rd.drew ?_ | refine Rd.drewN ?_ | refine Rd.set (by assumption) ?_ | refine Rd.lit (by assumption) (by simp) ?_ | refine Rd.alloc ?_ _ | omega)))); (focus omega); rintro e w' ⟨_, q5, d5, os5, rfl, k1, k2, ⟨x5, rfl⟩, rfl⟩) | (have hvA := vA; clear hvA; (go_at_call 42; refine (pick_any _ ?_ _ _ ?_ ?_).mono ?_; rotate_left; (focus ((repeat (first | assumption | refine Rd.ext ?_ | refine Rd.drew ?_ | refine Rd.drewN ?_ | refine Rd.set (by assumption) ?_ | refine Rd.lit (by assumption) (by simp) ?_ | refine Rd.alloc ?_ _ | omega)))); (focus omega); rintro e w' ⟨vB, dvB, rfl, h0vB, h1vB, h2vB, rfl⟩; replace h1vB := h1vB (by omega); clear h2vB)) | (go_at_call 42; refine (pick_any _ ?_ _ _ ?_ ?_).mono ?_; rotate_left; (focus ((repeat (first | assumption | refine Rd.ext ?_ | refine Rd.drew ?_ | refine Rd.drewN ?_ | refine Rd.set (by assumption) ?_ | refine Rd.lit (by assumption) (by simp) ?_ | refine Rd.alloc ?_ _ | omega)))); (focus omega); rintro e w' ⟨vA, dvA, rfl, h0vA, h1vA, h2vA, rfl⟩; replace h1vA := h1vA (by omega); clear h2vA)
  refine hK.out _ _ ?_ (fun hHeld => ?_)
  · (try dsimp only)
    (refine ⟨?_, ?_⟩) <;> (first | assumption | (go_simp; done) | fail)
  clear hK K
  try simp only [Act.put, List.setIfInBounds_toArray, List.set_cons_zero, List.set_cons_succ]
  refine wpAnyH_ready (rs := [3, 9]) (by kernel_rfl) (by simp) ?_
  refine AllReadyH.cons rfl (fun K hK => ?_) ?_
  · skip
    go_simp
    try (go_wp2_with fail)
    refine hK.out _ _ ?_ (fun hHeld => ?_)
    · (try dsimp only)
      (refine ⟨?_, ?_⟩) <;> (first | assumption | (go_simp; done) | fail)
    clear hK K
    try simp only [Act.put, List.setIfInBounds_toArray, List.set_cons_zero, List.set_cons_succ]
    refine wpAnyH_take (i := 6) (v := ?_) rfl (by kernel_rfl) (by kernel_rfl) (by kernel_rfl) (fun _ _ _ h => h) (Or.inl ⟨by rfl, ?_⟩) (by assumption) ?_
    rotate_left
    · intro w hSw
      (try dsimp only at hSw)
      go_simp
      try with_reducible rfl
    try simp only [Act.put, List.setIfInBounds_toArray, List.set_cons_zero, List.set_cons_succ]
    refine wpAnyH_ready (rs := [7, 9]) (by kernel_rfl) (by simp) ?_
    refine AllReadyH.cons rfl (fun K hK => ?_) ?_
    · skip
      go_simp
      try (go_wp2_with fail)
      refine hK.out _ _ ?_ (fun hHeld => ?_)
      · (try dsimp only)
        (refine ⟨?_, ?_⟩) <;> (first | assumption | (go_simp; done) | fail)
      clear hK K
      try simp only [Act.put, List.setIfInBounds_toArray, List.set_cons_zero, List.set_cons_succ]
      refine wpAnyH_ready (rs := [9]) (by kernel_rfl) (by simp) ?_
      refine AllReadyH.cons rfl (fun K hK => ?_) AllReadyH.nil
      go_simp
      first | (go_at_call 54; refine (l20User_drew _ ?_ _ ?_ ?_).mono ?_; rotate_left; (focus ((repeat (first | assumption | refine Rd.ext ?_ | refine Rd.drew ?_ | refine Rd.drewN ?_ | refine Rd.set (by assumption) ?_ | refine Rd.lit (by assumption) (by simp) ?_ | refine Rd.alloc ?_ _ | omega)))); (focus omega); rintro e w' ⟨_, q5, d5, os5, rfl, k1, k2, ⟨x5, rfl⟩, rfl⟩) | (have hvA := vA; clear hvA; (go_at_call 42; refine (pick_any _ ?_ _ _ ?_ ?_).mono ?_; rotate_left; (focus ((repeat (first | assumption | refine Rd.ext ?_ | refine Rd.drew ?_ | refine Rd.drewN ?_ | refine Rd.set (by assumption) ?_ | refine Rd.lit (by assumption) (by simp) ?_ | refine Rd.alloc ?_ _ | omega)))); (focus omega); rintro e w' ⟨vB, dvB, rfl, h0vB, h1vB, h2vB, rfl⟩; replace h1vB := h1vB (by omega); clear h2vB)) | (go_at_call 42; refine (pick_any _ ?_ _ _ ?_ ?_).mono ?_; rotate_left; (focus ((repeat (first | assumption | refine Rd.ext ?_ | refine Rd.drew ?_ | refine Rd.drewN ?_ | refine Rd.set (by assumption) ?_ | refine Rd.lit (by assumption) (by simp) ?_ | refine Rd.alloc ?_ _ | omega)))); (focus omega); rintro e w' ⟨vA, dvA, rfl, h0vA, h1vA, h2vA, rfl⟩; replace h1vA := h1vA (by omega); clear h2vA)
      refine hK.out _ _ ?_ (fun hHeld => ?_)
      · (try dsimp only)
        (refine ⟨?_, ?_⟩) <;> (first | assumption | (go_simp; done) | fail)
      clear hK K
      try simp only [Act.put, List.setIfInBounds_toArray, List.set_cons_zero, List.set_cons_succ]
      refine wpAnyH_take (i := 10) (v := ?_) rfl (by kernel_rfl) (by kernel_rfl) (by kernel_rfl) (fun _ _ _ h => h) (Or.inl ⟨by rfl, ?_⟩) (by assumption) ?_
      rotate_left
      · intro w hSw
        (try dsimp only at hSw)
        go_simp
        try with_reducible rfl
      try simp only [Act.put, List.setIfInBounds_toArray, List.set_cons_zero, List.set_cons_succ]
      refine wpAnyH_ready (rs := [11]) (by kernel_rfl) (by simp) ?_
      refine AllReadyH.cons rfl (fun K hK => ?_) AllReadyH.nil
      go_simp
      try (go_wp2_with fail)
      refine hK.out _ _ ?_ (fun hHeld => ?_)
      · (try dsimp only)
        (refine ⟨?_, ?_⟩) <;> (first | assumption | (go_simp; done) | fail)
      clear hK K
      try simp only [Act.put, List.setIfInBounds_toArray, List.set_cons_zero, List.set_cons_succ]
      refine wpAnyH_take (i := 12) (v := ?_) rfl (by kernel_rfl) (by kernel_rfl) (by kernel_rfl) (fun _ _ _ h => h) (Or.inl ⟨by rfl, ?_⟩) (by assumption) ?_
      rotate_left
      · intro w hSw
        (try dsimp only at hSw)
        go_simp
        try with_reducible rfl
      try simp only [Act.put, List.setIfInBounds_toArray, List.set_cons_zero, List.set_cons_succ]
      refine wpAnyH_take (i := 13) (v := ?_) rfl (by kernel_rfl) (by kernel_rfl) (by kernel_rfl) (fun _ _ _ h => h) (Or.inl ⟨by rfl, ?_⟩) (by assumption) ?_
      rotate_left
      · intro w hSw
        (try dsimp only at hSw)
        go_simp
        try with_reducible rfl
      try simp only [Act.put, List.setIfInBounds_toArray, List.set_cons_zero, List.set_cons_succ]
      refine wpAnyH_done (by kernel_rfl) ?_ _
      refine NoPanic.normal ?_
      try go_simp
      go_wp2_with fail
      refine bodyPost_ret (v := .tuple #[.agg #[.slice Av l.length cv, .int .i64 nx], .int .i64 (selN vA [-1, x5]), .bool (vB == 0)]) ?_ rfl ?_
      · simp only [results, Try.results29]
        go_simp
      · refine ⟨_, l, nx, _, _, rfl, hl, hx, rowF_sl (B := w.heap.size + 2) ?_, ?_⟩
        · repeat (first | exact Hown.out | refine rowF_setCell ?_ (fun j hj => by have := (Hblk.out j hj).1; omega) | refine rowF_ext ?_ | refine rowF_alloc ?_ _)
        · repeat (first | exact Hbw.out | refine Below.ext ?_ (by first | omega | (simp; omega) | simp) | refine Below.setCell ?_ (by first | omega | (simp; omega) | simp) _ | refine Below.alloc ?_ (by first | omega | (simp; omega) | simp) _)
    refine AllReadyH.cons rfl (fun K hK => ?_) AllReadyH.nil
    go_simp
    first | (go_at_call 54; refine (l20User_drew _ ?_ _ ?_ ?_).mono ?_; rotate_left; (focus ((repeat (first | assumption | refine Rd.ext ?_ | refine Rd.drew ?_ | refine Rd.drewN ?_ | refine Rd.set (by assumption) ?_ | refine Rd.lit (by assumption) (by simp) ?_ | refine Rd.alloc ?_ _ | omega)))); (focus omega); rintro e w' ⟨_, q5, d5, os5, rfl, k1, k2, ⟨x5, rfl⟩, rfl⟩) | (have hvA := vA; clear hvA; (go_at_call 42; refine (pick_any _ ?_ _ _ ?_ ?_).mono ?_; rotate_left; (focus ((repeat (first | assumption | refine Rd.ext ?_ | refine Rd.drew ?_ | refine Rd.drewN ?_ | refine Rd.set (by assumption) ?_ | refine Rd.lit (by assumption) (by simp) ?_ | refine Rd.alloc ?_ _ | omega)))); (focus omega); rintro e w' ⟨vB, dvB, rfl, h0vB, h1vB, h2vB, rfl⟩; replace h1vB := h1vB (by omega); clear h2vB)) | (go_at_call 42; refine (pick_any _ ?_ _ _ ?_ ?_).mono ?_; rotate_left; (focus ((repeat (first | assumption | refine Rd.ext ?_ | refine Rd.drew ?_ | refine Rd.drewN ?_ | refine Rd.set (by assumption) ?_ | refine Rd.lit (by assumption) (by simp) ?_ | refine Rd.alloc ?_ _ | omega)))); (focus omega); rintro e w' ⟨vA, dvA, rfl, h0vA, h1vA, h2vA, rfl⟩; replace h1vA := h1vA (by omega); clear h2vA)
    refine hK.out _ _ ?_ (fun hHeld => ?_)
    · (try dsimp only)
      (refine ⟨?_, ?_⟩) <;> (first | assumption | (go_simp; done) | fail)
    clear hK K
    try simp only [Act.put, List.setIfInBounds_toArray, List.set_cons_zero, List.set_cons_succ]
    refine wpAnyH_take (i := 10) (v := ?_) rfl (by kernel_rfl) (by kernel_rfl) (by kernel_rfl) (fun _ _ _ h => h) (Or.inl ⟨by rfl, ?_⟩) (by assumption) ?_
    rotate_left
    · intro w hSw
      (try dsimp only at hSw)
      go_simp
      try with_reducible rfl
    try simp only [Act.put, List.setIfInBounds_toArray, List.set_cons_zero, List.set_cons_succ]
    refine wpAnyH_ready (rs := [7, 11]) (by kernel_rfl) (by simp) ?_
    refine AllReadyH.cons rfl (fun K hK => ?_) ?_
    · skip
      go_simp
      try (go_wp2_with fail)
      refine hK.out _ _ ?_ (fun hHeld => ?_)
      · (try dsimp only)
        (refine ⟨?_, ?_⟩) <;> (first | assumption | (go_simp; done) | fail)
      clear hK K
      try simp only [Act.put, List.setIfInBounds_toArray, List.set_cons_zero, List.set_cons_succ]
      refine wpAnyH_ready (rs := [11]) (by kernel_rfl) (by simp) ?_
      refine AllReadyH.cons rfl (fun K hK => ?_) AllReadyH.nil
      go_simp
      try (go_wp2_with fail)
      refine hK.out _ _ ?_ (fun hHeld => ?_)
      · (try dsimp only)
        (refine ⟨?_, ?_⟩) <;> (first | assumption | (go_simp; done) | fail)
      clear hK K
      try simp only [Act.put, List.setIfInBounds_toArray, List.set_cons_zero, List.set_cons_succ]
      refine wpAnyH_take (i := 12) (v := ?_) rfl (by kernel_rfl) (by kernel_rfl) (by kernel_rfl) (fun _ _ _ h => h) (Or.inl ⟨by rfl, ?_⟩) (by assumption) ?_
      rotate_left
      · intro w hSw
        (try dsimp only at hSw)
        go_simp
        try with_reducible rfl
      try simp only [Act.put, List.setIfInBounds_toArray, List.set_cons_zero, List.set_cons_succ]
      refine wpAnyH_take (i := 13) (v := ?_) rfl (by kernel_rfl) (by kernel_rfl) (by kernel_rfl) (fun _ _ _ h => h) (Or.inl ⟨by rfl, ?_⟩) (by assumption) ?_
      rotate_left
      · intro w hSw
        (try dsimp only at hSw)
        go_simp
        try with_reducible rfl
      try simp only [Act.put, List.setIfInBounds_toArray, List.set_cons_zero, List.set_cons_succ]
      refine wpAnyH_done (by kernel_rfl) ?_ _
      refine NoPanic.normal ?_
      try go_simp
      go_wp2_with fail
      refine bodyPost_ret (v := .tuple #[.agg #[.slice Av l.length cv, .int .i64 nx], .int .i64 (selN vA [-1, x5]), .bool (vB == 0)]) ?_ rfl ?_
      · simp only [results, Try.results29]
        go_simp
      · refine ⟨_, l, nx, _, _, rfl, hl, hx, rowF_sl (B := w.heap.size + 2) ?_, ?_⟩
        · repeat (first | exact Hown.out | refine rowF_setCell ?_ (fun j hj => by have := (Hblk.out j hj).1; omega) | refine rowF_ext ?_ | refine rowF_alloc ?_ _)
        · repeat (first | exact Hbw.out | refine Below.ext ?_ (by first | omega | (simp; omega) | simp) | refine Below.setCell ?_ (by first | omega | (simp; omega) | simp) _ | refine Below.alloc ?_ (by first | omega | (simp; omega) | simp) _)
    refine AllReadyH.cons rfl (fun K hK => ?_) AllReadyH.nil
    go_simp
    try (go_wp2_with fail)
    refine hK.out _ _ ?_ (fun hHeld => ?_)
    · (try dsimp only)
      (refine ⟨?_, ?_⟩) <;> (first | assumption | (go_simp; done) | fail)
    clear hK K
    try simp only [Act.put, List.setIfInBounds_toArray, List.set_cons_zero, List.set_cons_succ]
    refine wpAnyH_ready (rs := [7]) (by kernel_rfl) (by simp) ?_
    refine AllReadyH.cons rfl (fun K hK => ?_) AllReadyH.nil
    go_simp
    try (go_wp2_with fail)
    refine hK.out _ _ ?_ (fun hHeld => ?_)
    · (try dsimp only)
      (refine ⟨?_, ?_⟩) <;> (first | assumption | (go_simp; done) | fail)
    clear hK K
    try simp only [Act.put, List.setIfInBounds_toArray, List.set_cons_zero, List.set_cons_succ]
    refine wpAnyH_take (i := 12) (v := ?_) rfl (by kernel_rfl) (by kernel_rfl) (by kernel_rfl) (fun _ _ _ h => h) (Or.inl ⟨by rfl, ?_⟩) (by assumption) ?_
    rotate_left
    · intro w hSw
      (try dsimp only at hSw)
      go_simp
      try with_reducible rfl
    try simp only [Act.put, List.setIfInBounds_toArray, List.set_cons_zero, List.set_cons_succ]
    refine wpAnyH_take (i := 13) (v := ?_) rfl (by kernel_rfl) (by kernel_rfl) (by kernel_rfl) (fun _ _ _ h => h) (Or.inl ⟨by rfl, ?_⟩) (by assumption) ?_
    rotate_left
    · intro w hSw
      (try dsimp only at hSw)
      go_simp
      try with_reducible rfl
    try simp only [Act.put, List.setIfInBounds_toArray, List.set_cons_zero, List.set_cons_succ]
    refine wpAnyH_done (by kernel_rfl) ?_ _
    refine NoPanic.normal ?_
    try go_simp
    go_wp2_with fail
    refine bodyPost_ret (v := .tuple #[.agg #[.slice Av l.length cv, .int .i64 nx], .int .i64 (selN vA [-1, x5]), .bool (vB == 0)]) ?_ rfl ?_
    · simp only [results, Try.results29]
      go_simp
    · refine ⟨_, l, nx, _, _, rfl, hl, hx, rowF_sl (B := w.heap.size + 2) ?_, ?_⟩
      · repeat (first | exact Hown.out | refine rowF_setCell ?_ (fun j hj => by have := (Hblk.out j hj).1; omega) | refine rowF_ext ?_ | refine rowF_alloc ?_ _)
      · repeat (first | exact Hbw.out | refine Below.ext ?_ (by first | omega | (simp; omega) | simp) | refine Below.setCell ?_ (by first | omega | (simp; omega) | simp) _ | refine Below.alloc ?_ (by first | omega | (simp; omega) | simp) _)
  refine AllReadyH.cons rfl (fun K hK => ?_) AllReadyH.nil
  go_simp
  first | (go_at_call 54; refine (l20User_drew _ ?_ _ ?_ ?_).mono ?_; rotate_left; (focus ((repeat (first | assumption | refine Rd.ext ?_ | refine Rd.drew ?_ | refine Rd.drewN ?_ | refine Rd.set (by assumption) ?_ | refine Rd.lit (by assumption) (by simp) ?_ | refine Rd.alloc ?_ _ | omega)))); (focus omega); rintro e w' ⟨_, q5, d5, os5, rfl, k1, k2, ⟨x5, rfl⟩, rfl⟩) | (have hvA := vA; clear hvA; (go_at_call 42; refine (pick_any _ ?_ _ _ ?_ ?_).mono ?_; rotate_left; (focus ((repeat (first | assumption | refine Rd.ext ?_ | refine Rd.drew ?_ | refine Rd.drewN ?_ | refine Rd.set (by assumption) ?_ | refine Rd.lit (by assumption) (by simp) ?_ | refine Rd.alloc ?_ _ | omega)))); (focus omega); rintro e w' ⟨vB, dvB, rfl, h0vB, h1vB, h2vB, rfl⟩; replace h1vB := h1vB (by omega); clear h2vB)) | (go_at_call 42; refine (pick_any _ ?_ _ _ ?_ ?_).mono ?_; rotate_left; (focus ((repeat (first | assumption | refine Rd.ext ?_ | refine Rd.drew ?_ | refine Rd.drewN ?_ | refine Rd.set (by assumption) ?_ | refine Rd.lit (by assumption) (by simp) ?_ | refine Rd.alloc ?_ _ | omega)))); (focus omega); rintro e w' ⟨vA, dvA, rfl, h0vA, h1vA, h2vA, rfl⟩; replace h1vA := h1vA (by omega); clear h2vA)
  refine hK.out _ _ ?_ (fun hHeld => ?_)
  · (try dsimp only)
    (refine ⟨?_, ?_⟩) <;> (first | assumption | (go_simp; done) | fail)
  clear hK K
  try simp only [Act.put, List.setIfInBounds_toArray, List.set_cons_zero, List.set_cons_succ]
  refine wpAnyH_take (i := 10) (v := ?_) rfl (by kernel_rfl) (by kernel_rfl) (by kernel_rfl) (fun _ _ _ h => h) (Or.inl ⟨by rfl, ?_⟩) (by assumption) ?_
  rotate_left
  · intro w hSw
    (try dsimp only at hSw)
    go_simp
    try with_reducible rfl
  try simp only [Act.put, List.setIfInBounds_toArray, List.set_cons_zero, List.set_cons_succ]
  refine wpAnyH_ready (rs := [3, 11]) (by kernel_rfl) (by simp) ?_
  refine AllReadyH.cons rfl (fun K hK => ?_) ?_
  · skip
    go_simp
    try (go_wp2_with fail)
    refine hK.out _ _ ?_ (fun hHeld => ?_)
    · (try dsimp only)
      (refine ⟨?_, ?_⟩) <;> (first | assumption | (go_simp; done) | fail)
    clear hK K
    try simp only [Act.put, List.setIfInBounds_toArray, List.set_cons_zero, List.set_cons_succ]
    refine wpAnyH_take (i := 6) (v := ?_) rfl (by kernel_rfl) (by kernel_rfl) (by kernel_rfl) (fun _ _ _ h => h) (Or.inl ⟨by rfl, ?_⟩) (by assumption) ?_
    rotate_left
    · intro w hSw
      (try dsimp only at hSw)
      go_simp
      try with_reducible rfl
    try simp only [Act.put, List.setIfInBounds_toArray, List.set_cons_zero, List.set_cons_succ]
    refine wpAnyH_ready (rs := [7, 11]) (by kernel_rfl) (by simp) ?_
    refine AllReadyH.cons rfl (fun K hK => ?_) ?_
    · skip
      go_simp
      try (go_wp2_with fail)
      refine hK.out _ _ ?_ (fun hHeld => ?_)
      · (try dsimp only)
        (refine ⟨?_, ?_⟩) <;> (first | assumption | (go_simp; done) | fail)
      clear hK K
      try simp only [Act.put, List.setIfInBounds_toArray, List.set_cons_zero, List.set_cons_succ]
      refine wpAnyH_ready (rs := [11]) (by kernel_rfl) (by simp) ?_
      refine AllReadyH.cons rfl (fun K hK => ?_) AllReadyH.nil
      go_simp
      try (go_wp2_with fail)
      refine hK.out _ _ ?_ (fun hHeld => ?_)
      · (try dsimp only)
        (refine ⟨?_, ?_⟩) <;> (first | assumption | (go_simp; done) | fail)
      clear hK K
      try simp only [Act.put, List.setIfInBounds_toArray, List.set_cons_zero, List.set_cons_succ]
      refine wpAnyH_take (i := 12) (v := ?_) rfl (by kernel_rfl) (by kernel_rfl) (by kernel_rfl) (fun _ _ _ h => h) (Or.inl ⟨by rfl, ?_⟩) (by assumption) ?_
      rotate_left
      · intro w hSw
        (try dsimp only at hSw)
        go_simp
        try with_reducible rfl
      try simp only [Act.put, List.setIfInBounds_toArray, List.set_cons_zero, List.set_cons_succ]
      refine wpAnyH_take (i := 13) (v := ?_) rfl (by kernel_rfl) (by kernel_rfl) (by kernel_rfl) (fun _ _ _ h => h) (Or.inl ⟨by rfl, ?_⟩) (by assumption) ?_
      rotate_left
      · intro w hSw
        (try dsimp only at hSw)
        go_simp
        try with_reducible rfl
      try simp only [Act.put, List.setIfInBounds_toArray, List.set_cons_zero, List.set_cons_succ]
      refine wpAnyH_done (by kernel_rfl) ?_ _
      refine NoPanic.normal ?_
      try go_simp
      go_wp2_with fail
      refine bodyPost_ret (v := .tuple #[.agg #[.slice Av l.length cv, .int .i64 nx], .int .i64 (selN vA [-1, x5]), .bool (vB == 0)]) ?_ rfl ?_
      · simp only [results, Try.results29]
        go_simp
      · refine ⟨_, l, nx, _, _, rfl, hl, hx, rowF_sl (B := w.heap.size + 2) ?_, ?_⟩
        · repeat (first | exact Hown.out | refine rowF_setCell ?_ (fun j hj => by have := (Hblk.out j hj).1; omega) | refine rowF_ext ?_ | refine rowF_alloc ?_ _)
        · repeat (first | exact Hbw.out | refine Below.ext ?_ (by first | omega | (simp; omega) | simp) | refine Below.setCell ?_ (by first | omega | (simp; omega) | simp) _ | refine Below.alloc ?_ (by first | omega | (simp; omega) | simp) _)
    refine AllReadyH.cons rfl (fun K hK => ?_) AllReadyH.nil
    go_simp
    try (go_wp2_with fail)
    refine hK.out _ _ ?_ (fun hHeld => ?_)
    · (try dsimp only)
      (refine ⟨?_, ?_⟩) <;> (first | assumption | (go_simp; done) | fail)
    clear hK K
    try simp only [Act.put, List.setIfInBounds_toArray, List.set_cons_zero, List.set_cons_succ]
    refine wpAnyH_ready (rs := [7]) (by kernel_rfl) (by simp) ?_
    refine AllReadyH.cons rfl (fun K hK => ?_) AllReadyH.nil
    go_simp
    try (go_wp2_with fail)
    refine hK.out _ _ ?_ (fun hHeld => ?_)
    · (try dsimp only)
      (refine ⟨?_, ?_⟩) <;> (first | assumption | (go_simp; done) | fail)
    clear hK K
    try simp only [Act.put, List.setIfInBounds_toArray, List.set_cons_zero, List.set_cons_succ]
    refine wpAnyH_take (i := 12) (v := ?_) rfl (by kernel_rfl) (by kernel_rfl) (by kernel_rfl) (fun _ _ _ h => h) (Or.inl ⟨by rfl, ?_⟩) (by assumption) ?_
    rotate_left
    · intro w hSw
      (try dsimp only at hSw)
      go_simp
      try with_reducible rfl
    try simp only [Act.put, List.setIfInBounds_toArray, List.set_cons_zero, List.set_cons_succ]
    refine wpAnyH_take (i := 13) (v := ?_) rfl (by kernel_rfl) (by kernel_rfl) (by kernel_rfl) (fun _ _ _ h => h) (Or.inl ⟨by rfl, ?_⟩) (by assumption) ?_
    rotate_left
    · intro w hSw
      (try dsimp only at hSw)
      go_simp
      try with_reducible rfl
    try simp only [Act.put, List.setIfInBounds_toArray, List.set_cons_zero, List.set_cons_succ]
    refine wpAnyH_done (by kernel_rfl) ?_ _
    refine NoPanic.normal ?_
    try go_simp
    go_wp2_with fail
    refine bodyPost_ret (v := .tuple #[.agg #[.slice Av l.length cv, .int .i64 nx], .int .i64 (selN vA [-1, x5]), .bool (vB == 0)]) ?_ rfl ?_
    · simp only [results, Try.results29]
      go_simp
    · refine ⟨_, l, nx, _, _, rfl, hl, hx, rowF_sl (B := w.heap.size + 2) ?_, ?_⟩
      · repeat (first | exact Hown.out | refine rowF_setCell ?_ (fun j hj => by have := (Hblk.out j hj).1; omega) | refine rowF_ext ?_ | refine rowF_alloc ?_ _)
      · repeat (first | exact Hbw.out | refine Below.ext ?_ (by first | omega | (simp; omega) | simp) | refine Below.setCell ?_ (by first | omega | (simp; omega) | simp) _ | refine Below.alloc ?_ (by first | omega | (simp; omega) | simp) _)
  refine AllReadyH.cons rfl (fun K hK => ?_) AllReadyH.nil
  go_simp
  try (go_wp2_with fail)
  refine hK.out _ _ ?_ (fun hHeld => ?_)
  · (try dsimp only)
    (refine ⟨?_, ?_⟩) <;> (first | assumption | (go_simp; done) | fail)
  clear hK K
  try simp only [Act.put, List.setIfInBounds_toArray, List.set_cons_zero, List.set_cons_succ]
  refine wpAnyH_ready (rs := [3]) (by kernel_rfl) (by simp) ?_
  refine AllReadyH.cons rfl (fun K hK => ?_) AllReadyH.nil
  go_simp
  try (go_wp2_with fail)
  refine hK.out _ _ ?_ (fun hHeld => ?_)
  · (try dsimp only)
    (refine ⟨?_, ?_⟩) <;> (first | assumption | (go_simp; done) | fail)
  clear hK K
  try simp only [Act.put, List.setIfInBounds_toArray, List.set_cons_zero, List.set_cons_succ]
  refine wpAnyH_take (i := 6) (v := ?_) rfl (by kernel_rfl) (by kernel_rfl) (by kernel_rfl) (fun _ _ _ h => h) (Or.inl ⟨by rfl, ?_⟩) (by assumption) ?_
  rotate_left
  · intro w hSw
    (try dsimp only at hSw)
    go_simp
    try with_reducible rfl
  try simp only [Act.put, List.setIfInBounds_toArray, List.set_cons_zero, List.set_cons_succ]
  refine wpAnyH_ready (rs := [7]) (by kernel_rfl) (by simp) ?_
  refine AllReadyH.cons rfl (fun K hK => ?_) AllReadyH.nil
  go_simp
  try (go_wp2_with fail)
  refine hK.out _ _ ?_ (fun hHeld => ?_)
  · (try dsimp only)
    (refine ⟨?_, ?_⟩) <;> (first | assumption | (go_simp; done) | fail)
  clear hK K
  try simp only [Act.put, List.setIfInBounds_toArray, List.set_cons_zero, List.set_cons_succ]
  refine wpAnyH_take (i := 12) (v := ?_) rfl (by kernel_rfl) (by kernel_rfl) (by kernel_rfl) (fun _ _ _ h => h) (Or.inl ⟨by rfl, ?_⟩) (by assumption) ?_
  rotate_left
  · intro w hSw
    (try dsimp only at hSw)
    go_simp
    try with_reducible rfl
  try simp only [Act.put, List.setIfInBounds_toArray, List.set_cons_zero, List.set_cons_succ]
  refine wpAnyH_take (i := 13) (v := ?_) rfl (by kernel_rfl) (by kernel_rfl) (by kernel_rfl) (fun _ _ _ h => h) (Or.inl ⟨by rfl, ?_⟩) (by assumption) ?_
  rotate_left
  · intro w hSw
    (try dsimp only at hSw)
    go_simp
    try with_reducible rfl
  try simp only [Act.put, List.setIfInBounds_toArray, List.set_cons_zero, List.set_cons_succ]
  refine wpAnyH_done (by kernel_rfl) ?_ _
  refine NoPanic.normal ?_
  try go_simp
  go_wp2_with fail
  refine bodyPost_ret (v := .tuple #[.agg #[.slice Av l.length cv, .int .i64 nx], .int .i64 (selN vA [-1, x5]), .bool (vB == 0)]) ?_ rfl ?_
  · simp only [results, Try.results29]
    go_simp
  · refine ⟨_, l, nx, _, _, rfl, hl, hx, rowF_sl (B := w.heap.size + 2) ?_, ?_⟩
    · repeat (first | exact Hown.out | refine rowF_setCell ?_ (fun j hj => by have := (Hblk.out j hj).1; omega) | refine rowF_ext ?_ | refine rowF_alloc ?_ _)
    · repeat (first | exact Hbw.out | refine Below.ext ?_ (by first | omega | (simp; omega) | simp) | refine Below.setCell ?_ (by first | omega | (simp; omega) | simp) _ | refine Below.alloc ?_ (by first | omega | (simp; omega) | simp) _)
end Go.Proofs.Ytlanbgpmmlnehaa
