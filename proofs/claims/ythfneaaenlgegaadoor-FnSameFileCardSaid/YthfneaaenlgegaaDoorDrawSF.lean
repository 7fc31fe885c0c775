/- What is drawn: a tree, a credential and two paths. -/
import Derived.Test.YthfneaaenlgegaaDoorDrawMA
import Derived.Test.YthfneaaenlgegaaDoorTake
set_option linter.unusedSimpArgs false
set_option linter.unusedVariables false
set_option linter.unusedSectionVars false
namespace Go.Proofs.YthfneaaenlgegaaDoor
open Go.RowKit

theorem selS2l (v : Int) (x0 x1 : ByteArray) (h : v.toNat < [Value.string x0, Value.string x1].length) : [Value.string x0, Value.string x1][v.toNat]'h = .string (selS v [x0, x1]) := by
  have h' : v.toNat < 2 := h
  have : v.toNat = 0 ∨ v.toNat = 1 := by omega
  rcases this with h | h <;> simp [h, selS]
@[go_sem] theorem selS2g (v : Int) (x0 x1 : ByteArray) (h : v.toNat < [Value.string x0, Value.string x1].length) : [Value.string x0, Value.string x1][v.toNat]'h = .string (selS v [x0, x1]) := selS2l v x0 x1 h
@[go_sem] theorem selS2 {v : Int} (h0 : 0 ≤ v) (h1 : v < 2) (x0 x1 : ByteArray) : [Value.string x0, Value.string x1][v.toNat]? = some (.string (selS v [x0, x1])) := by
  have hl : v.toNat < [Value.string x0, Value.string x1].length := by simp; omega
  rw [List.getElem?_eq_getElem hl, selS2l]
@[go_sem] theorem selS2a {v : Int} (h0 : 0 ≤ v) (h1 : v < 2) (x0 x1 : ByteArray) : (#[Value.string x0, Value.string x1] : Array Value)[v.toNat]? = some (.string (selS v [x0, x1])) := by
  rw [List.getElem?_toArray]; exact selS2 h0 h1 x0 x1
theorem half3 {v : Int} (h0 : 0 ≤ v) (h1 : v < 3) : ∃ k, IntKind.i64.wrap (v.tdiv 2) = k ∧ 0 ≤ k ∧ k < 2 := by
  have : v = 0 ∨ v = 1 ∨ v = 2 := by omega
  rcases this with rfl | rfl | rfl
  · exact ⟨0, by decide, by decide, by decide⟩
  · exact ⟨0, by decide, by decide, by decide⟩
  · exact ⟨1, by decide, by decide, by decide⟩
theorem treeC_r2 {B : Nat} {w : World} {v : Value} {cs : List Cn} {t : List Nd} (h : TreeC B w v cs t) : TreeR w v t := TreeO.r ⟨cs, h⟩
/-- A tree, a credential and two texts are drawn. -/
def GotF2 (w : World) (e : Ending) (w' : World) : Prop := ∃ (v : Value) (t : List Nd) (a b c d : Int) (s r : ByteArray), e = .returned (.tuple #[v, .agg #[.int .i64 a, .int .i64 b, .int .i64 c, .int .i64 d], .string s, .string r]) ∧ TreeO w.heap.size w' v t ∧ t.length ≤ 20 ∧ (kidsOf t).length ≤ 16 ∧ s.size ≤ 54 ∧ r.size ≤ 54 ∧ Below w.heap.size w w'
set_option maxRecDepth 100000 in
set_option maxHeartbeats 8000000 in
theorem drawSF_any (a : Option Addr) (len cap : Nat) (zs : List Int) (w : World) (hrow : IsRow .u8 w a len cap zs) : Calls Tryd.prog 21 #[.slice a len cap] w (GotF2 w) := by
  go_enter Tryd.func21, Tryd.ntmps21
  go_wp2_with (go_at_call 41; refine (open_any _ _ _ _ _ (IsRow.below hrow (by repeat (first | exact Below.refl _ _ | refine Below.alloc ?_ (by simp; try omega) _)))).mono ?_; rintro e w' ⟨A, le, ca, rfl, rfl, zs', hby⟩; (try simp only [World.size_alloc] at hby))
  have D0 := DS.start hby
  obtain ⟨W0, hW0⟩ : ∃ W0, W0 = ((w.alloc (.cells #[.int .i64 0, .int .i64 0, .int .i64 0, .int .i64 0] 36)).alloc (.cells #[.slice A le ca, .int .i64 0] 90)) := ⟨_, rfl⟩
  have hz0 : W0.heap.size = w.heap.size + 2 := by rw [hW0]; simp
  rw [← hW0] at D0 ⊢
  obtain ⟨R, hR⟩ : ∃ R, R = w.heap.size + 1 := ⟨_, rfl⟩
  rw [← hR] at D0
  simp only [← hR]
  have hRz : R < W0.heap.size := by omega
  clear hW0 hR hby hrow hz0
  refine (l20Tree_any R 0 14 W0 D0.rd (by decide) (by decide) (by decide)).mono ?_
  rintro e W1 ⟨v, cs, t, q1, rfl, hT, h1, h2, h3, k0, k1, hRB⟩
  have D1 := D0.step k0 hRB
  have hr1 := D1.rd
  have HT1 := Lib.hid hT
  have HD1 := Lib.hid D1
  have hlt := D0.lt
  obtain ⟨A1, cap1, rfl⟩ := (TreeO.r ⟨_, hT⟩).shape
  clear D0 D1 hT hRB h3
  go_wp2_with fail
  refine (l20Cred_any R q1 14 W1 hr1 (by omega) (by decide) (by decide)).mono ?_
  rintro e W2 ⟨_, q2, d2, os2, rfl, k2, k3, ⟨a0, b0, c0, d0, rfl⟩, hW2⟩
  have D2 := HD1.out.pick (d := d2) (os := os2) (q' := q2) (by omega)
  have T2 := HT1.out.pick (d := d2) (os := os2) (i := 1) (u := .int .i64 q2) hRz
  rw [← hW2] at D2 T2
  have hr2 := D2.rd
  have HT2 := Lib.hid T2
  have Hbl := Lib.hid D2.below
  have y0 := D2.cell 0 (by decide)
  have y1 := D2.cell 1 (by decide)
  have y2 := D2.cell 2 (by decide)
  have y3 := D2.cell 3 (by decide)
  have f0 := D2.froz 0
  have f1 := D2.froz 1
  have f2 := D2.froz 2
  have f3 := D2.froz 3
  have hz2 : w.heap.size < W2.heap.size := by have := D2.rd.lt; omega
  have hne : w.heap.size ≠ R := by omega
  have hRz2 : R < W2.heap.size := D2.rd.lt
  have hne2 : R ≠ W2.heap.size := by omega
  have hne3 : W2.heap.size ≠ R := by omega
  have HR2 := Lib.hid (TreeO.r ⟨_, T2⟩)
  have HW := Lib.hid (fun q w (hq : q ≤ 1000) hr h => l20Where_any R q (.slice A1 t.length cap1) t w hr (by omega) h (by omega) h2)
  clear hW2 D2 T2 HD1 HT1 hr1
  have hn1 := h1
  have hn2 := h2
  go_wp2_with fail
  refine (HW.out q2 _ (by omega) ?_ (HR2.out.below (by (repeat (first | exact Below.refl _ _ | exact Hbl.out | refine Below.ext ?_ (by first | omega | (simp; omega) | simp) | refine Below.setCell ?_ (by first | omega | (simp; omega) | simp) _ | refine Below.alloc ?_ (by first | omega | (simp; omega) | simp) _ | refine Below.drew ?_ | refine below_drewN ?_ _ | refine Below.step (by assumption) (by first | omega | (simp; omega) | simp) ?_))))).mono ?_
  · (repeat (first | assumption | refine Rd.ext ?_ | refine Rd.drew ?_ | refine Rd.drewN ?_ | refine Rd.set (by assumption) ?_ | refine Rd.lit (by assumption) (by simp) ?_ | refine Rd.alloc ?_ _ | omega))
  rintro e w' ⟨_, q3, d3, os3, rfl, k4, k5, ⟨x, rfl, hx⟩, rfl⟩
  go_wp2_with fail
  refine wp_region_noPanic ?_
  refine wp_region_held_drew (S := (fun w' => w'.cell? ⟨W2.heap.size, 0, none⟩ = some (.int .i64 a0) ∧ w'.cell? ⟨W2.heap.size, 1, none⟩ = some (.int .i64 b0) ∧ w'.cell? ⟨W2.heap.size, 2, none⟩ = some (.int .i64 c0) ∧ w'.cell? ⟨W2.heap.size, 3, none⟩ = some (.int .i64 d0))) (by kernel_rfl) ?_ (fun hHeld => ?_)
  · (try dsimp only)
    (refine ⟨?_, ?_, ?_, ?_⟩) <;> (first | assumption | (go_simp; done) | fail)
  refine wpAnyH_take (i := 0) (v := ?_) rfl (by kernel_rfl) (by kernel_rfl) (by kernel_rfl) (fun _ _ _ h => h) (Or.inl ⟨by rfl, ?_⟩) (by assumption) ?_
  rotate_left
  · intro w hSw
    (try dsimp only at hSw)
    go_simp
    try with_reducible rfl
  try simp only [Act.put, List.getElem_toArray, List.getElem_cons_succ, List.getElem_cons_zero, List.setIfInBounds_toArray, List.set_cons_zero, List.set_cons_succ]
  refine wpAnyH_take (i := 1) (v := ?_) rfl (by kernel_rfl) (by kernel_rfl) (by kernel_rfl) (fun _ _ _ h => h) (Or.inl ⟨by rfl, ?_⟩) (by assumption) ?_
  rotate_left
  · intro w hSw
    (try dsimp only at hSw)
    go_simp
    try with_reducible rfl
  try simp only [Act.put, List.getElem_toArray, List.getElem_cons_succ, List.getElem_cons_zero, List.setIfInBounds_toArray, List.set_cons_zero, List.set_cons_succ]
  refine wpAnyH_take (i := 2) (v := ?_) rfl (by kernel_rfl) (by kernel_rfl) (by kernel_rfl) (fun _ _ _ h => h) (Or.inl ⟨by rfl, ?_⟩) (by assumption) ?_
  rotate_left
  · intro w hSw
    (try dsimp only at hSw)
    go_simp
    try with_reducible rfl
  try simp only [Act.put, List.getElem_toArray, List.getElem_cons_succ, List.getElem_cons_zero, List.setIfInBounds_toArray, List.set_cons_zero, List.set_cons_succ]
  refine wpAnyH_take (i := 3) (v := ?_) rfl (by kernel_rfl) (by kernel_rfl) (by kernel_rfl) (fun _ _ _ h => h) (Or.inl ⟨by rfl, ?_⟩) (by assumption) ?_
  rotate_left
  · intro w hSw
    (try dsimp only at hSw)
    go_simp
    try with_reducible rfl
  try simp only [Act.put, List.getElem_toArray, List.getElem_cons_succ, List.getElem_cons_zero, List.setIfInBounds_toArray, List.set_cons_zero, List.set_cons_succ]
  refine wpAnyH_take (i := 4) (v := ?_) rfl (by kernel_rfl) (by kernel_rfl) (by kernel_rfl) (fun _ _ _ h => h) (Or.inl ⟨by rfl, ?_⟩) (by assumption) ?_
  rotate_left
  · intro w hSw
    (try dsimp only at hSw)
    go_simp
    try with_reducible rfl
  try simp only [Act.put, List.getElem_toArray, List.getElem_cons_succ, List.getElem_cons_zero, List.setIfInBounds_toArray, List.set_cons_zero, List.set_cons_succ]
  refine wpAnyH_take (i := 5) (v := ?_) rfl (by kernel_rfl) (by kernel_rfl) (by kernel_rfl) (fun _ _ _ h => h) (Or.inl ⟨by rfl, ?_⟩) (by assumption) ?_
  rotate_left
  · intro w hSw
    (try dsimp only at hSw)
    go_simp
    try with_reducible rfl
  try simp only [Act.put, List.getElem_toArray, List.getElem_cons_succ, List.getElem_cons_zero, List.setIfInBounds_toArray, List.set_cons_zero, List.set_cons_succ]
  refine wpAnyH_take (i := 8) (v := ?_) rfl (by kernel_rfl) (by kernel_rfl) (by kernel_rfl) (fun _ _ _ h => h) (Or.inl ⟨by rfl, ?_⟩) (by assumption) ?_
  rotate_left
  · intro w hSw
    (try dsimp only at hSw)
    go_simp
    try with_reducible rfl
  try simp only [Act.put, List.getElem_toArray, List.getElem_cons_succ, List.getElem_cons_zero, List.setIfInBounds_toArray, List.set_cons_zero, List.set_cons_succ]
  refine wpAnyH_ready (rs := [6]) (by kernel_rfl) (by simp) ?_
  refine AllReadyH.cons rfl (fun K hK => ?_) AllReadyH.nil
  go_simp
  first | (go_at_call 53; refine (HW.out q3 _ (by omega) ?_ ?_).mono ?_; (focus ((repeat (first | assumption | refine Rd.ext ?_ | refine Rd.drew ?_ | refine Rd.drewN ?_ | refine Rd.set (by assumption) ?_ | refine Rd.lit (by assumption) (by simp) ?_ | refine Rd.alloc ?_ _ | omega)))); (focus (first | with_reducible exact treeC_r2 ((HT2.out.rset hRz).alloc _).ext | with_reducible exact treeC_r2 ((HT2.out.alloc _).rset hRz).ext)); rintro e w' ⟨_, q4, d4, os4, rfl, k6, k7, ⟨y, rfl, hy⟩, rfl⟩) | (go_at_call 59; refine (pick_any _ ?_ _ _ ?_ ?_).mono ?_; rotate_left; (focus ((repeat (first | assumption | refine Rd.ext ?_ | refine Rd.drew ?_ | refine Rd.drewN ?_ | refine Rd.set (by assumption) ?_ | refine Rd.lit (by assumption) (by simp) ?_ | refine Rd.alloc ?_ _ | omega)))); (focus omega); rintro e w' ⟨v, d, rfl, g0, g1, g2, rfl⟩; replace g1 := g1 (by omega); clear g2; obtain ⟨kk, hkk, kk0, kk1⟩ := half3 g0 g1)
  refine hK.out _ _ ?_ (fun hHeld => ?_)
  · (try dsimp only)
    (refine ⟨?_, ?_, ?_, ?_⟩) <;> (first | assumption | (go_simp; done) | fail)
  clear hK K
  try simp only [Act.put, List.getElem_toArray, List.getElem_cons_succ, List.getElem_cons_zero, List.setIfInBounds_toArray, List.set_cons_zero, List.set_cons_succ]
  refine wpAnyH_ready (rs := [7, 9]) (by kernel_rfl) (by simp) ?_
  refine AllReadyH.cons rfl (fun K hK => ?_) ?_
  · skip
    go_simp
    try (go_wp2_with fail)
    refine hK.out _ _ ?_ (fun hHeld => ?_)
    · (try dsimp only)
      (refine ⟨?_, ?_, ?_, ?_⟩) <;> (first | assumption | (go_simp; done) | fail)
    clear hK K
    try simp only [Act.put, List.getElem_toArray, List.getElem_cons_succ, List.getElem_cons_zero, List.setIfInBounds_toArray, List.set_cons_zero, List.set_cons_succ]
    refine wpAnyH_ready (rs := [9]) (by kernel_rfl) (by simp) ?_
    refine AllReadyH.cons rfl (fun K hK => ?_) AllReadyH.nil
    go_simp
    first | (go_at_call 53; refine (HW.out q3 _ (by omega) ?_ ?_).mono ?_; (focus ((repeat (first | assumption | refine Rd.ext ?_ | refine Rd.drew ?_ | refine Rd.drewN ?_ | refine Rd.set (by assumption) ?_ | refine Rd.lit (by assumption) (by simp) ?_ | refine Rd.alloc ?_ _ | omega)))); (focus (first | with_reducible exact treeC_r2 ((HT2.out.rset hRz).alloc _).ext | with_reducible exact treeC_r2 ((HT2.out.alloc _).rset hRz).ext)); rintro e w' ⟨_, q4, d4, os4, rfl, k6, k7, ⟨y, rfl, hy⟩, rfl⟩) | (go_at_call 59; refine (pick_any _ ?_ _ _ ?_ ?_).mono ?_; rotate_left; (focus ((repeat (first | assumption | refine Rd.ext ?_ | refine Rd.drew ?_ | refine Rd.drewN ?_ | refine Rd.set (by assumption) ?_ | refine Rd.lit (by assumption) (by simp) ?_ | refine Rd.alloc ?_ _ | omega)))); (focus omega); rintro e w' ⟨v, d, rfl, g0, g1, g2, rfl⟩; replace g1 := g1 (by omega); clear g2; obtain ⟨kk, hkk, kk0, kk1⟩ := half3 g0 g1)
    refine hK.out _ _ ?_ (fun hHeld => ?_)
    · (try dsimp only)
      (refine ⟨?_, ?_, ?_, ?_⟩) <;> (first | assumption | (go_simp; done) | fail)
    clear hK K
    try simp only [Act.put, List.getElem_toArray, List.getElem_cons_succ, List.getElem_cons_zero, List.setIfInBounds_toArray, List.set_cons_zero, List.set_cons_succ]
    refine wpAnyH_take (i := 10) (v := ?_) rfl (by kernel_rfl) (by kernel_rfl) (by kernel_rfl) (fun _ _ _ h => h) (Or.inl ⟨by rfl, ?_⟩) (by assumption) ?_
    rotate_left
    · intro w hSw
      (try dsimp only at hSw)
      go_simp
      try with_reducible rfl
    try simp only [Act.put, List.getElem_toArray, List.getElem_cons_succ, List.getElem_cons_zero, List.setIfInBounds_toArray, List.set_cons_zero, List.set_cons_succ]
    refine wpAnyH_take (i := 11) (v := ?_) rfl (by kernel_rfl) (by kernel_rfl) (by kernel_rfl) (fun _ _ _ h => h) (Or.inl ⟨by rfl, ?_⟩) (by assumption) ?_
    rotate_left
    · intro w hSw
      (try dsimp only at hSw)
      go_simp
      try with_reducible rfl
    try simp only [Act.put, List.getElem_toArray, List.getElem_cons_succ, List.getElem_cons_zero, List.setIfInBounds_toArray, List.set_cons_zero, List.set_cons_succ]
    refine wpAnyH_take (i := 13) (v := ?_) rfl (by kernel_rfl) (by kernel_rfl) (by kernel_rfl) (fun _ _ _ h => h) (Or.inl ⟨by rfl, ?_⟩) (by assumption) ?_
    rotate_left
    · intro w hSw
      (try dsimp only at hSw)
      go_simp
      try with_reducible rfl
    try simp only [Act.put, List.getElem_toArray, List.getElem_cons_succ, List.getElem_cons_zero, List.setIfInBounds_toArray, List.set_cons_zero, List.set_cons_succ]
    refine wpAnyH_ready (rs := [12, 14]) (by kernel_rfl) (by simp) ?_
    refine AllReadyH.cons rfl (fun K hK => ?_) ?_
    · skip
      go_simp
      try (go_wp2_with fail)
      refine hK.out _ _ ?_ (fun hHeld => ?_)
      · (try dsimp only)
        (refine ⟨?_, ?_, ?_, ?_⟩) <;> (first | assumption | (go_simp; done) | fail)
      clear hK K
      try simp only [Act.put, List.getElem_toArray, List.getElem_cons_succ, List.getElem_cons_zero, List.setIfInBounds_toArray, List.set_cons_zero, List.set_cons_succ]
      refine wpAnyH_ready (rs := [14]) (by kernel_rfl) (by simp) ?_
      refine AllReadyH.cons rfl (fun K hK => ?_) AllReadyH.nil
      go_simp
      try (go_wp2_with fail)
      refine hK.out _ _ ?_ (fun hHeld => ?_)
      · (try dsimp only)
        (refine ⟨?_, ?_, ?_, ?_⟩) <;> (first | assumption | (go_simp; done) | fail)
      clear hK K
      try simp only [Act.put, List.getElem_toArray, List.getElem_cons_succ, List.getElem_cons_zero, List.setIfInBounds_toArray, List.set_cons_zero, List.set_cons_succ]
      refine wpAnyH_take (i := 15) (v := ?_) rfl (by kernel_rfl) (by kernel_rfl) (by kernel_rfl) (fun _ _ _ h => h) (Or.inl ⟨by rfl, ?_⟩) (by assumption) ?_
      rotate_left
      · intro w hSw
        (try dsimp only at hSw)
        go_simp
        try with_reducible rfl
      try simp only [Act.put, List.getElem_toArray, List.getElem_cons_succ, List.getElem_cons_zero, List.setIfInBounds_toArray, List.set_cons_zero, List.set_cons_succ]
      refine wpAnyH_take (i := 16) (v := ?_) rfl (by kernel_rfl) (by kernel_rfl) (by kernel_rfl) (fun _ _ _ h => h) (Or.inl ⟨by rfl, ?_⟩) (by assumption) ?_
      rotate_left
      · intro w hSw
        (try dsimp only at hSw)
        go_simp
        try with_reducible rfl
      try simp only [Act.put, List.getElem_toArray, List.getElem_cons_succ, List.getElem_cons_zero, List.setIfInBounds_toArray, List.set_cons_zero, List.set_cons_succ]
      refine wpAnyH_done (by kernel_rfl) ?_ _
      refine NoPanic.normal ?_
      go_wp2
      refine bodyPost_ret (v := .tuple #[.slice A1 t.length cap1, .agg #[.int .i64 a0, .int .i64 b0, .int .i64 c0, .int .i64 d0], .string x, .string (selS kk [x, y])]) ?_ rfl ?_
      · simp only [results, Tryd.results21]
        go_simp
      · have hsel : (selS kk [x, y]).size ≤ 54 := selS_size (fun z hz => by
          simp at hz
          rcases hz with rfl | rfl
          · exact hx
          · exact hy)
        refine ⟨_, t, _, _, _, _, _, _, rfl, ⟨cs, TreeC.mono (B := W0.heap.size) ?_ (by omega)⟩, hn1, hn2, hx, hsel, ?_⟩
        · first | with_reducible exact ((fin_tree HT2.out hRz (by omega)).alloc _).ext | with_reducible exact (fin_tree HT2.out hRz (by omega)).alloc _
        · first | with_reducible exact Below.ext (Below.alloc (fin_below Hbl.out (by omega) (Nat.le_refl _) (by omega)) (by simp; omega) _) (by simp; omega) | with_reducible exact Below.alloc (fin_below Hbl.out (by omega) (Nat.le_refl _) (by omega)) (by simp; omega) _
    refine AllReadyH.cons rfl (fun K hK => ?_) AllReadyH.nil
    go_simp
    try (go_wp2_with fail)
    refine hK.out _ _ ?_ (fun hHeld => ?_)
    · (try dsimp only)
      (refine ⟨?_, ?_, ?_, ?_⟩) <;> (first | assumption | (go_simp; done) | fail)
    clear hK K
    try simp only [Act.put, List.getElem_toArray, List.getElem_cons_succ, List.getElem_cons_zero, List.setIfInBounds_toArray, List.set_cons_zero, List.set_cons_succ]
    refine wpAnyH_take (i := 15) (v := ?_) rfl (by kernel_rfl) (by kernel_rfl) (by kernel_rfl) (fun _ _ _ h => h) (Or.inl ⟨by rfl, ?_⟩) (by assumption) ?_
    rotate_left
    · intro w hSw
      (try dsimp only at hSw)
      go_simp
      try with_reducible rfl
    try simp only [Act.put, List.getElem_toArray, List.getElem_cons_succ, List.getElem_cons_zero, List.setIfInBounds_toArray, List.set_cons_zero, List.set_cons_succ]
    refine wpAnyH_ready (rs := [12]) (by kernel_rfl) (by simp) ?_
    refine AllReadyH.cons rfl (fun K hK => ?_) AllReadyH.nil
    go_simp
    try (go_wp2_with fail)
    refine hK.out _ _ ?_ (fun hHeld => ?_)
    · (try dsimp only)
      (refine ⟨?_, ?_, ?_, ?_⟩) <;> (first | assumption | (go_simp; done) | fail)
    clear hK K
    try simp only [Act.put, List.getElem_toArray, List.getElem_cons_succ, List.getElem_cons_zero, List.setIfInBounds_toArray, List.set_cons_zero, List.set_cons_succ]
    refine wpAnyH_take (i := 16) (v := ?_) rfl (by kernel_rfl) (by kernel_rfl) (by kernel_rfl) (fun _ _ _ h => h) (Or.inl ⟨by rfl, ?_⟩) (by assumption) ?_
    rotate_left
    · intro w hSw
      (try dsimp only at hSw)
      go_simp
      try with_reducible rfl
    try simp only [Act.put, List.getElem_toArray, List.getElem_cons_succ, List.getElem_cons_zero, List.setIfInBounds_toArray, List.set_cons_zero, List.set_cons_succ]
    refine wpAnyH_done (by kernel_rfl) ?_ _
    refine NoPanic.normal ?_
    go_wp2
    refine bodyPost_ret (v := .tuple #[.slice A1 t.length cap1, .agg #[.int .i64 a0, .int .i64 b0, .int .i64 c0, .int .i64 d0], .string x, .string (selS kk [x, y])]) ?_ rfl ?_
    · simp only [results, Tryd.results21]
      go_simp
    · have hsel : (selS kk [x, y]).size ≤ 54 := selS_size (fun z hz => by
        simp at hz
        rcases hz with rfl | rfl
        · exact hx
        · exact hy)
      refine ⟨_, t, _, _, _, _, _, _, rfl, ⟨cs, TreeC.mono (B := W0.heap.size) ?_ (by omega)⟩, hn1, hn2, hx, hsel, ?_⟩
      · first | with_reducible exact ((fin_tree HT2.out hRz (by omega)).alloc _).ext | with_reducible exact (fin_tree HT2.out hRz (by omega)).alloc _
      · first | with_reducible exact Below.ext (Below.alloc (fin_below Hbl.out (by omega) (Nat.le_refl _) (by omega)) (by simp; omega) _) (by simp; omega) | with_reducible exact Below.alloc (fin_below Hbl.out (by omega) (Nat.le_refl _) (by omega)) (by simp; omega) _
  refine AllReadyH.cons rfl (fun K hK => ?_) AllReadyH.nil
  go_simp
  first | (go_at_call 53; refine (HW.out q3 _ (by omega) ?_ ?_).mono ?_; (focus ((repeat (first | assumption | refine Rd.ext ?_ | refine Rd.drew ?_ | refine Rd.drewN ?_ | refine Rd.set (by assumption) ?_ | refine Rd.lit (by assumption) (by simp) ?_ | refine Rd.alloc ?_ _ | omega)))); (focus (first | with_reducible exact treeC_r2 ((HT2.out.rset hRz).alloc _).ext | with_reducible exact treeC_r2 ((HT2.out.alloc _).rset hRz).ext)); rintro e w' ⟨_, q4, d4, os4, rfl, k6, k7, ⟨y, rfl, hy⟩, rfl⟩) | (go_at_call 59; refine (pick_any _ ?_ _ _ ?_ ?_).mono ?_; rotate_left; (focus ((repeat (first | assumption | refine Rd.ext ?_ | refine Rd.drew ?_ | refine Rd.drewN ?_ | refine Rd.set (by assumption) ?_ | refine Rd.lit (by assumption) (by simp) ?_ | refine Rd.alloc ?_ _ | omega)))); (focus omega); rintro e w' ⟨v, d, rfl, g0, g1, g2, rfl⟩; replace g1 := g1 (by omega); clear g2; obtain ⟨kk, hkk, kk0, kk1⟩ := half3 g0 g1)
  refine hK.out _ _ ?_ (fun hHeld => ?_)
  · (try dsimp only)
    (refine ⟨?_, ?_, ?_, ?_⟩) <;> (first | assumption | (go_simp; done) | fail)
  clear hK K
  try simp only [Act.put, List.getElem_toArray, List.getElem_cons_succ, List.getElem_cons_zero, List.setIfInBounds_toArray, List.set_cons_zero, List.set_cons_succ]
  refine wpAnyH_take (i := 10) (v := ?_) rfl (by kernel_rfl) (by kernel_rfl) (by kernel_rfl) (fun _ _ _ h => h) (Or.inl ⟨by rfl, ?_⟩) (by assumption) ?_
  rotate_left
  · intro w hSw
    (try dsimp only at hSw)
    go_simp
    try with_reducible rfl
  try simp only [Act.put, List.getElem_toArray, List.getElem_cons_succ, List.getElem_cons_zero, List.setIfInBounds_toArray, List.set_cons_zero, List.set_cons_succ]
  refine wpAnyH_take (i := 13) (v := ?_) rfl (by kernel_rfl) (by kernel_rfl) (by kernel_rfl) (fun _ _ _ h => h) (Or.inl ⟨by rfl, ?_⟩) (by assumption) ?_
  rotate_left
  · intro w hSw
    (try dsimp only at hSw)
    go_simp
    try with_reducible rfl
  try simp only [Act.put, List.getElem_toArray, List.getElem_cons_succ, List.getElem_cons_zero, List.setIfInBounds_toArray, List.set_cons_zero, List.set_cons_succ]
  refine wpAnyH_ready (rs := [7, 14]) (by kernel_rfl) (by simp) ?_
  refine AllReadyH.cons rfl (fun K hK => ?_) ?_
  · skip
    go_simp
    try (go_wp2_with fail)
    refine hK.out _ _ ?_ (fun hHeld => ?_)
    · (try dsimp only)
      (refine ⟨?_, ?_, ?_, ?_⟩) <;> (first | assumption | (go_simp; done) | fail)
    clear hK K
    try simp only [Act.put, List.getElem_toArray, List.getElem_cons_succ, List.getElem_cons_zero, List.setIfInBounds_toArray, List.set_cons_zero, List.set_cons_succ]
    refine wpAnyH_take (i := 11) (v := ?_) rfl (by kernel_rfl) (by kernel_rfl) (by kernel_rfl) (fun _ _ _ h => h) (Or.inl ⟨by rfl, ?_⟩) (by assumption) ?_
    rotate_left
    · intro w hSw
      (try dsimp only at hSw)
      go_simp
      try with_reducible rfl
    try simp only [Act.put, List.getElem_toArray, List.getElem_cons_succ, List.getElem_cons_zero, List.setIfInBounds_toArray, List.set_cons_zero, List.set_cons_succ]
    refine wpAnyH_ready (rs := [12, 14]) (by kernel_rfl) (by simp) ?_
    refine AllReadyH.cons rfl (fun K hK => ?_) ?_
    · skip
      go_simp
      try (go_wp2_with fail)
      refine hK.out _ _ ?_ (fun hHeld => ?_)
      · (try dsimp only)
        (refine ⟨?_, ?_, ?_, ?_⟩) <;> (first | assumption | (go_simp; done) | fail)
      clear hK K
      try simp only [Act.put, List.getElem_toArray, List.getElem_cons_succ, List.getElem_cons_zero, List.setIfInBounds_toArray, List.set_cons_zero, List.set_cons_succ]
      refine wpAnyH_ready (rs := [14]) (by kernel_rfl) (by simp) ?_
      refine AllReadyH.cons rfl (fun K hK => ?_) AllReadyH.nil
      go_simp
      try (go_wp2_with fail)
      refine hK.out _ _ ?_ (fun hHeld => ?_)
      · (try dsimp only)
        (refine ⟨?_, ?_, ?_, ?_⟩) <;> (first | assumption | (go_simp; done) | fail)
      clear hK K
      try simp only [Act.put, List.getElem_toArray, List.getElem_cons_succ, List.getElem_cons_zero, List.setIfInBounds_toArray, List.set_cons_zero, List.set_cons_succ]
      refine wpAnyH_take (i := 15) (v := ?_) rfl (by kernel_rfl) (by kernel_rfl) (by kernel_rfl) (fun _ _ _ h => h) (Or.inl ⟨by rfl, ?_⟩) (by assumption) ?_
      rotate_left
      · intro w hSw
        (try dsimp only at hSw)
        go_simp
        try with_reducible rfl
      try simp only [Act.put, List.getElem_toArray, List.getElem_cons_succ, List.getElem_cons_zero, List.setIfInBounds_toArray, List.set_cons_zero, List.set_cons_succ]
      refine wpAnyH_take (i := 16) (v := ?_) rfl (by kernel_rfl) (by kernel_rfl) (by kernel_rfl) (fun _ _ _ h => h) (Or.inl ⟨by rfl, ?_⟩) (by assumption) ?_
      rotate_left
      · intro w hSw
        (try dsimp only at hSw)
        go_simp
        try with_reducible rfl
      try simp only [Act.put, List.getElem_toArray, List.getElem_cons_succ, List.getElem_cons_zero, List.setIfInBounds_toArray, List.set_cons_zero, List.set_cons_succ]
      refine wpAnyH_done (by kernel_rfl) ?_ _
      refine NoPanic.normal ?_
      go_wp2
      refine bodyPost_ret (v := .tuple #[.slice A1 t.length cap1, .agg #[.int .i64 a0, .int .i64 b0, .int .i64 c0, .int .i64 d0], .string x, .string (selS kk [x, y])]) ?_ rfl ?_
      · simp only [results, Tryd.results21]
        go_simp
      · have hsel : (selS kk [x, y]).size ≤ 54 := selS_size (fun z hz => by
          simp at hz
          rcases hz with rfl | rfl
          · exact hx
          · exact hy)
        refine ⟨_, t, _, _, _, _, _, _, rfl, ⟨cs, TreeC.mono (B := W0.heap.size) ?_ (by omega)⟩, hn1, hn2, hx, hsel, ?_⟩
        · first | with_reducible exact ((fin_tree HT2.out hRz (by omega)).alloc _).ext | with_reducible exact (fin_tree HT2.out hRz (by omega)).alloc _
        · first | with_reducible exact Below.ext (Below.alloc (fin_below Hbl.out (by omega) (Nat.le_refl _) (by omega)) (by simp; omega) _) (by simp; omega) | with_reducible exact Below.alloc (fin_below Hbl.out (by omega) (Nat.le_refl _) (by omega)) (by simp; omega) _
    refine AllReadyH.cons rfl (fun K hK => ?_) AllReadyH.nil
    go_simp
    try (go_wp2_with fail)
    refine hK.out _ _ ?_ (fun hHeld => ?_)
    · (try dsimp only)
      (refine ⟨?_, ?_, ?_, ?_⟩) <;> (first | assumption | (go_simp; done) | fail)
    clear hK K
    try simp only [Act.put, List.getElem_toArray, List.getElem_cons_succ, List.getElem_cons_zero, List.setIfInBounds_toArray, List.set_cons_zero, List.set_cons_succ]
    refine wpAnyH_take (i := 15) (v := ?_) rfl (by kernel_rfl) (by kernel_rfl) (by kernel_rfl) (fun _ _ _ h => h) (Or.inl ⟨by rfl, ?_⟩) (by assumption) ?_
    rotate_left
    · intro w hSw
      (try dsimp only at hSw)
      go_simp
      try with_reducible rfl
    try simp only [Act.put, List.getElem_toArray, List.getElem_cons_succ, List.getElem_cons_zero, List.setIfInBounds_toArray, List.set_cons_zero, List.set_cons_succ]
    refine wpAnyH_ready (rs := [12]) (by kernel_rfl) (by simp) ?_
    refine AllReadyH.cons rfl (fun K hK => ?_) AllReadyH.nil
    go_simp
    try (go_wp2_with fail)
    refine hK.out _ _ ?_ (fun hHeld => ?_)
    · (try dsimp only)
      (refine ⟨?_, ?_, ?_, ?_⟩) <;> (first | assumption | (go_simp; done) | fail)
    clear hK K
    try simp only [Act.put, List.getElem_toArray, List.getElem_cons_succ, List.getElem_cons_zero, List.setIfInBounds_toArray, List.set_cons_zero, List.set_cons_succ]
    refine wpAnyH_take (i := 16) (v := ?_) rfl (by kernel_rfl) (by kernel_rfl) (by kernel_rfl) (fun _ _ _ h => h) (Or.inl ⟨by rfl, ?_⟩) (by assumption) ?_
    rotate_left
    · intro w hSw
      (try dsimp only at hSw)
      go_simp
      try with_reducible rfl
    try simp only [Act.put, List.getElem_toArray, List.getElem_cons_succ, List.getElem_cons_zero, List.setIfInBounds_toArray, List.set_cons_zero, List.set_cons_succ]
    refine wpAnyH_done (by kernel_rfl) ?_ _
    refine NoPanic.normal ?_
    go_wp2
    refine bodyPost_ret (v := .tuple #[.slice A1 t.length cap1, .agg #[.int .i64 a0, .int .i64 b0, .int .i64 c0, .int .i64 d0], .string x, .string (selS kk [x, y])]) ?_ rfl ?_
    · simp only [results, Tryd.results21]
      go_simp
    · have hsel : (selS kk [x, y]).size ≤ 54 := selS_size (fun z hz => by
        simp at hz
        rcases hz with rfl | rfl
        · exact hx
        · exact hy)
      refine ⟨_, t, _, _, _, _, _, _, rfl, ⟨cs, TreeC.mono (B := W0.heap.size) ?_ (by omega)⟩, hn1, hn2, hx, hsel, ?_⟩
      · first | with_reducible exact ((fin_tree HT2.out hRz (by omega)).alloc _).ext | with_reducible exact (fin_tree HT2.out hRz (by omega)).alloc _
      · first | with_reducible exact Below.ext (Below.alloc (fin_below Hbl.out (by omega) (Nat.le_refl _) (by omega)) (by simp; omega) _) (by simp; omega) | with_reducible exact Below.alloc (fin_below Hbl.out (by omega) (Nat.le_refl _) (by omega)) (by simp; omega) _
  refine AllReadyH.cons rfl (fun K hK => ?_) AllReadyH.nil
  go_simp
  try (go_wp2_with fail)
  refine hK.out _ _ ?_ (fun hHeld => ?_)
  · (try dsimp only)
    (refine ⟨?_, ?_, ?_, ?_⟩) <;> (first | assumption | (go_simp; done) | fail)
  clear hK K
  try simp only [Act.put, List.getElem_toArray, List.getElem_cons_succ, List.getElem_cons_zero, List.setIfInBounds_toArray, List.set_cons_zero, List.set_cons_succ]
  refine wpAnyH_take (i := 15) (v := ?_) rfl (by kernel_rfl) (by kernel_rfl) (by kernel_rfl) (fun _ _ _ h => h) (Or.inl ⟨by rfl, ?_⟩) (by assumption) ?_
  rotate_left
  · intro w hSw
    (try dsimp only at hSw)
    go_simp
    try with_reducible rfl
  try simp only [Act.put, List.getElem_toArray, List.getElem_cons_succ, List.getElem_cons_zero, List.setIfInBounds_toArray, List.set_cons_zero, List.set_cons_succ]
  refine wpAnyH_ready (rs := [7]) (by kernel_rfl) (by simp) ?_
  refine AllReadyH.cons rfl (fun K hK => ?_) AllReadyH.nil
  go_simp
  try (go_wp2_with fail)
  refine hK.out _ _ ?_ (fun hHeld => ?_)
  · (try dsimp only)
    (refine ⟨?_, ?_, ?_, ?_⟩) <;> (first | assumption | (go_simp; done) | fail)
  clear hK K
  try simp only [Act.put, List.getElem_toArray, List.getElem_cons_succ, List.getElem_cons_zero, List.setIfInBounds_toArray, List.set_cons_zero, List.set_cons_succ]
  refine wpAnyH_take (i := 11) (v := ?_) rfl (by kernel_rfl) (by kernel_rfl) (by kernel_rfl) (fun _ _ _ h => h) (Or.inl ⟨by rfl, ?_⟩) (by assumption) ?_
  rotate_left
  · intro w hSw
    (try dsimp only at hSw)
    go_simp
    try with_reducible rfl
  try simp only [Act.put, List.getElem_toArray, List.getElem_cons_succ, List.getElem_cons_zero, List.setIfInBounds_toArray, List.set_cons_zero, List.set_cons_succ]
  refine wpAnyH_ready (rs := [12]) (by kernel_rfl) (by simp) ?_
  refine AllReadyH.cons rfl (fun K hK => ?_) AllReadyH.nil
  go_simp
  try (go_wp2_with fail)
  refine hK.out _ _ ?_ (fun hHeld => ?_)
  · (try dsimp only)
    (refine ⟨?_, ?_, ?_, ?_⟩) <;> (first | assumption | (go_simp; done) | fail)
  clear hK K
  try simp only [Act.put, List.getElem_toArray, List.getElem_cons_succ, List.getElem_cons_zero, List.setIfInBounds_toArray, List.set_cons_zero, List.set_cons_succ]
  refine wpAnyH_take (i := 16) (v := ?_) rfl (by kernel_rfl) (by kernel_rfl) (by kernel_rfl) (fun _ _ _ h => h) (Or.inl ⟨by rfl, ?_⟩) (by assumption) ?_
  rotate_left
  · intro w hSw
    (try dsimp only at hSw)
    go_simp
    try with_reducible rfl
  try simp only [Act.put, List.getElem_toArray, List.getElem_cons_succ, List.getElem_cons_zero, List.setIfInBounds_toArray, List.set_cons_zero, List.set_cons_succ]
  refine wpAnyH_done (by kernel_rfl) ?_ _
  refine NoPanic.normal ?_
  go_wp2
  refine bodyPost_ret (v := .tuple #[.slice A1 t.length cap1, .agg #[.int .i64 a0, .int .i64 b0, .int .i64 c0, .int .i64 d0], .string x, .string (selS kk [x, y])]) ?_ rfl ?_
  · simp only [results, Tryd.results21]
    go_simp
  · have hsel : (selS kk [x, y]).size ≤ 54 := selS_size (fun z hz => by
      simp at hz
      rcases hz with rfl | rfl
      · exact hx
      · exact hy)
    refine ⟨_, t, _, _, _, _, _, _, rfl, ⟨cs, TreeC.mono (B := W0.heap.size) ?_ (by omega)⟩, hn1, hn2, hx, hsel, ?_⟩
    · first | with_reducible exact ((fin_tree HT2.out hRz (by omega)).alloc _).ext | with_reducible exact (fin_tree HT2.out hRz (by omega)).alloc _
    · first | with_reducible exact Below.ext (Below.alloc (fin_below Hbl.out (by omega) (Nat.le_refl _) (by omega)) (by simp; omega) _) (by simp; omega) | with_reducible exact Below.alloc (fin_below Hbl.out (by omega) (Nat.le_refl _) (by omega)) (by simp; omega) _
end Go.Proofs.YthfneaaenlgegaaDoor
