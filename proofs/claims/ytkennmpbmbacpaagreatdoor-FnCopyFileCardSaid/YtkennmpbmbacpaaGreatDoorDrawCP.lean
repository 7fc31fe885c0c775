/- What is drawn: a tree, a credential and two paths (DrawCopyFile). -/
import Derived.Test.YtkennmpbmbacpaaGreatDoorDrawLN2
import Derived.Test.YtkennmpbmbacpaaGreatDoorHeldZ
set_option linter.unusedSimpArgs false
set_option linter.unusedVariables false
set_option linter.unusedSectionVars false
namespace Go.Proofs.YtkennmpbmbacpaaGreatDoor
open Go.RowKit

theorem selS2l (v : Int) (x0 x1 : ByteArray) (h : v.toNat < [Value.string x0, Value.string x1].length) : [Value.string x0, Value.string x1][v.toNat]'h = .string (selS v [x0, x1]) := by
  have h' : v.toNat < 2 := h
  have : v.toNat = 0 ∨ v.toNat = 1 := by omega
  rcases this with h | h <;> simp [h, selS]
@[go_sem] theorem selS2g (v : Int) (x0 x1 : ByteArray) (h : v.toNat < [Value.string x0, Value.string x1].length) : [Value.string x0, Value.string x1][v.toNat]'h = .string (selS v [x0, x1]) := selS2l v x0 x1 h
@[go_sem] theorem selS2 {v : Int} (h0 : 0 ≤ v) (h1 : v < 2) (x0 x1 : ByteArray) : [Value.string x0, Value.string x1][v.toNat]? = some (.string (selS v [x0, x1])) := by
  have hl : v.toNat < [Value.string x0, Value.string x1].length := by simp; omega
  rw [List.getElem?_eq_getElem hl, selS2l]
@[go_sem] theorem selS2a {v : Int} (h0 : 0 ≤ v) (h1 : v < 2) (x0 x1 : ByteArray) : (#[Value.string x0, Value.string x1] : Array Value)[v.toNat]? = some (.string (selS v [x0, x1])) := by
  rw [List.getElem?_toArray]; exact selS2 h0 h1 x0 x1
theorem half3 {v : Int} (h0 : 0 ≤ v) (h1 : v < 3) : ∃ k, IntKind.i64.wrap (v.tdiv 2) = k ∧ 0 ≤ k ∧ k < 2 := by
  have : v = 0 ∨ v = 1 ∨ v = 2 := by omega
  rcases this with rfl | rfl | rfl
  · exact ⟨0, by decide, by decide, by decide⟩
  · exact ⟨0, by decide, by decide, by decide⟩
  · exact ⟨1, by decide, by decide, by decide⟩
set_option maxRecDepth 100000 in
set_option maxHeartbeats 4000000 in
theorem drawCP_any (a : Option Addr) (len cap : Nat) (zs : List Int) (w : World) (hrow : IsRow .u8 w a len cap zs) : Calls Tryz.prog 32 #[.slice a len cap] w (GotF2 w) := by
  go_enter Tryz.func32, Tryz.ntmps32
  go_wp2_with (go_at_call 58; refine (open_any _ _ _ _ _ (IsRow.below hrow (by repeat (first | exact Below.refl _ _ | refine Below.alloc ?_ (by simp; try omega) _)))).mono ?_; rintro e w' ⟨A, le, ca, rfl, rfl, zs', hby⟩; (try simp only [World.size_alloc] at hby))
  have D0 := DS.start hby
  obtain ⟨W0, hW0⟩ : ∃ W0, W0 = ((w.alloc (.cells #[.int .i64 0, .int .i64 0, .int .i64 0, .int .i64 0] 25)).alloc (.cells #[.slice A le ca, .int .i64 0] 103)) := ⟨_, rfl⟩
  have hz0 : W0.heap.size = w.heap.size + 2 := by rw [hW0]; simp
  rw [← hW0] at D0 ⊢
  obtain ⟨R, hR⟩ : ∃ R, R = w.heap.size + 1 := ⟨_, rfl⟩
  rw [← hR] at D0
  simp only [← hR]
  have hRz : R < W0.heap.size := by omega
  clear hW0 hR hby hrow hz0
  refine (l20Tree_any R 0 14 W0 D0.rd (by decide) (by decide) (by decide)).mono ?_
  rintro e W1 ⟨v, cs, t, q1, rfl, hT, h1, h2, h3, k0, k1, hRB⟩
  have D1 := D0.step k0 hRB
  have hr1 := D1.rd
  have HT1 := Lib.hid hT
  have HD1 := Lib.hid D1
  have hlt := D0.lt
  obtain ⟨A1, cap1, rfl⟩ := (TreeO.r ⟨_, hT⟩).shape
  clear D0 D1 hT hRB h3
  go_wp2_with fail
  refine (l20Cred_any R q1 14 W1 hr1 (by omega) (by decide) (by decide)).mono ?_
  rintro e W2 ⟨_, q2, d2, os2, rfl, k2, k3, ⟨a0, b0, c0, d0, rfl⟩, hW2⟩
  have D2 := HD1.out.pick (d := d2) (os := os2) (q' := q2) (by omega)
  have T2 := HT1.out.pick (d := d2) (os := os2) (i := 1) (u := .int .i64 q2) hRz
  rw [← hW2] at D2 T2
  have hr2 := D2.rd
  have HT2 := Lib.hid T2
  have Hbl := Lib.hid D2.below
  have y0 := D2.cell 0 (by decide)
  have y1 := D2.cell 1 (by decide)
  have y2 := D2.cell 2 (by decide)
  have y3 := D2.cell 3 (by decide)
  have f0 := D2.froz 0
  have f1 := D2.froz 1
  have f2 := D2.froz 2
  have f3 := D2.froz 3
  have hz2 : w.heap.size < W2.heap.size := by have := D2.rd.lt; omega
  have hne : w.heap.size ≠ R := by omega
  have hRz2 : R < W2.heap.size := D2.rd.lt
  have hne2 : R ≠ W2.heap.size := by omega
  have hne3 : W2.heap.size ≠ R := by omega
  have HR2 := Lib.hid (TreeO.r ⟨_, T2⟩)
  have HW := Lib.hid (fun q w (hq : q ≤ 1000) hr h => l20Where_any R q (.slice A1 t.length cap1) t w hr (by omega) h (by omega) h2)
  have HN := Lib.hid (fun q w (hq : q ≤ 1000) hr h => l20New_any R q (.slice A1 t.length cap1) t w hr (by omega) h (by omega) h2)
  clear hW2 D2 T2 HD1 HT1 hr1
  have hn1 := h1
  have hn2 := h2
  go_wp2_with fail
  refine (HW.out q2 _ (by omega) ?_ (HR2.out.below (by (repeat (first | exact Below.refl _ _ | exact Hbl.out | refine Below.ext ?_ (by first | omega | (simp; omega) | simp) | refine Below.setCell ?_ (by first | omega | (simp; omega) | simp) _ | refine Below.alloc ?_ (by first | omega | (simp; omega) | simp) _ | refine Below.drew ?_ | refine below_drewN ?_ _ | refine Below.step (by assumption) (by first | omega | (simp; omega) | simp) ?_))))).mono ?_
  · (repeat (first | assumption | refine Rd.ext ?_ | refine Rd.drew ?_ | refine Rd.drewN ?_ | refine Rd.set (by assumption) ?_ | refine Rd.lit (by assumption) (by simp) ?_ | refine Rd.alloc ?_ _ | omega))
  rintro e w' ⟨_, q3, d3, os3, rfl, k4, k5, ⟨x, rfl, hx⟩, rfl⟩
  go_wp2_with fail
  refine wp_region_Z (fun w' => w'.cell? ⟨W2.heap.size, 0, none⟩ = some (.int .i64 a0) ∧ w'.cell? ⟨W2.heap.size, 1, none⟩ = some (.int .i64 b0) ∧ w'.cell? ⟨W2.heap.size, 2, none⟩ = some (.int .i64 c0) ∧ w'.cell? ⟨W2.heap.size, 3, none⟩ = some (.int .i64 d0)) 16 (by kernel_rfl) ?_ (fun hHeld => ?_)
  · (try dsimp only)
    refine ⟨?_, ?_, ?_, ?_⟩ <;> (first | with_reducible assumption | (go_simp; done))
  refine zkP (i := 0) (v := ?_) rfl (by kernel_rfl) (by kernel_rfl) (fun _ _ _ h => h) rfl ?_ (by assumption) ?_; rotate_left; (focus (intro w; go_simp; try with_reducible rfl))
  try simp only [Act.put, List.getElem_toArray, List.getElem_cons_succ, List.getElem_cons_zero, List.setIfInBounds_toArray, List.set_cons_zero, List.set_cons_succ]
  refine zkL (i := 1) (v := ?_) rfl (by kernel_rfl) (by kernel_rfl) (fun _ _ _ h => h) (by kernel_rfl) ?_ (by assumption) ?_; rotate_left; (focus (intro w hSw; (try dsimp only at hSw); go_simp; try with_reducible rfl))
  try simp only [Act.put, List.getElem_toArray, List.getElem_cons_succ, List.getElem_cons_zero, List.setIfInBounds_toArray, List.set_cons_zero, List.set_cons_succ]
  refine zkP (i := 2) (v := ?_) rfl (by kernel_rfl) (by kernel_rfl) (fun _ _ _ h => h) rfl ?_ (by assumption) ?_; rotate_left; (focus (intro w; go_simp; try with_reducible rfl))
  try simp only [Act.put, List.getElem_toArray, List.getElem_cons_succ, List.getElem_cons_zero, List.setIfInBounds_toArray, List.set_cons_zero, List.set_cons_succ]
  refine zkP (i := 3) (v := ?_) rfl (by kernel_rfl) (by kernel_rfl) (fun _ _ _ h => h) rfl ?_ (by assumption) ?_; rotate_left; (focus (intro w; go_simp; try with_reducible rfl))
  try simp only [Act.put, List.getElem_toArray, List.getElem_cons_succ, List.getElem_cons_zero, List.setIfInBounds_toArray, List.set_cons_zero, List.set_cons_succ]
  refine zkP (i := 4) (v := ?_) rfl (by kernel_rfl) (by kernel_rfl) (fun _ _ _ h => h) rfl ?_ (by assumption) ?_; rotate_left; (focus (intro w; go_simp; try with_reducible rfl))
  try simp only [Act.put, List.getElem_toArray, List.getElem_cons_succ, List.getElem_cons_zero, List.setIfInBounds_toArray, List.set_cons_zero, List.set_cons_succ]
  refine zkP (i := 6) (v := ?_) rfl (by kernel_rfl) (by kernel_rfl) (fun _ _ _ h => h) rfl ?_ (by assumption) ?_; rotate_left; (focus (intro w; go_simp; try with_reducible rfl))
  try simp only [Act.put, List.getElem_toArray, List.getElem_cons_succ, List.getElem_cons_zero, List.setIfInBounds_toArray, List.set_cons_zero, List.set_cons_succ]
  refine zkP (i := 7) (v := ?_) rfl (by kernel_rfl) (by kernel_rfl) (fun _ _ _ h => h) rfl ?_ (by assumption) ?_; rotate_left; (focus (intro w; go_simp; try with_reducible rfl))
  try simp only [Act.put, List.getElem_toArray, List.getElem_cons_succ, List.getElem_cons_zero, List.setIfInBounds_toArray, List.set_cons_zero, List.set_cons_succ]
  refine zkP (i := 10) (v := ?_) rfl (by kernel_rfl) (by kernel_rfl) (fun _ _ _ h => h) rfl ?_ (by assumption) ?_; rotate_left; (focus (intro w; go_simp; try with_reducible rfl))
  try simp only [Act.put, List.getElem_toArray, List.getElem_cons_succ, List.getElem_cons_zero, List.setIfInBounds_toArray, List.set_cons_zero, List.set_cons_succ]
  refine wpAnyZ_ready (rs := [5]) (by kernel_rfl) (by simp) ?_
  refine AllReadyZ.keep rfl (fun K hK => ?_) (AllReadyZ.nil)
  go_simp
  go_at_call 61
  refine (HN.out q3 _ (by omega) ?_ (treeC_r2 (B := W0.heap.size) (cs := cs) ?_)).mono ?_
  · (repeat (first | assumption | refine Rd.ext ?_ | refine Rd.drew ?_ | refine Rd.drewN ?_ | refine Rd.set (by assumption) ?_ | refine Rd.lit (by assumption) (by simp) ?_ | refine Rd.alloc ?_ _ | omega))
  · (repeat (first | with_reducible exact HT2.out | with_reducible refine TreeC.ext ?_ | with_reducible refine TreeC.alloc ?_ _ | with_reducible refine TreeC.rset ?_ (by omega)))
  rintro e w' ⟨_, q4, d4, os4, rfl, j0, j1, ⟨y, rfl, hy⟩, rfl⟩
  refine hK.out _ _ ?_ (fun hHeld => ?_)
  · (try dsimp only)
    refine ⟨?_, ?_, ?_, ?_⟩ <;> (first | with_reducible assumption | (go_simp; done))
  clear hK K
  try simp only [Act.put, List.getElem_toArray, List.getElem_cons_succ, List.getElem_cons_zero, List.setIfInBounds_toArray, List.set_cons_zero, List.set_cons_succ]
  refine wpAnyZ_ready (rs := [8]) (by kernel_rfl) (by simp) ?_
  refine AllReadyZ.keep rfl (fun K hK => ?_) (AllReadyZ.nil)
  go_simp
  go_at_call 72
  refine (HW.out q4 _ (by omega) ?_ (treeC_r2 (B := W0.heap.size) (cs := cs) ?_)).mono ?_
  · (repeat (first | assumption | refine Rd.ext ?_ | refine Rd.drew ?_ | refine Rd.drewN ?_ | refine Rd.set (by assumption) ?_ | refine Rd.lit (by assumption) (by simp) ?_ | refine Rd.alloc ?_ _ | omega))
  · (repeat (first | with_reducible exact HT2.out | with_reducible refine TreeC.ext ?_ | with_reducible refine TreeC.alloc ?_ _ | with_reducible refine TreeC.rset ?_ (by omega)))
  rintro e w' ⟨_, q5, d5, os5, rfl, m0, m1, ⟨z, rfl, hz⟩, rfl⟩
  refine hK.out _ _ ?_ (fun hHeld => ?_)
  · (try dsimp only)
    refine ⟨?_, ?_, ?_, ?_⟩ <;> (first | with_reducible assumption | (go_simp; done))
  clear hK K
  try simp only [Act.put, List.getElem_toArray, List.getElem_cons_succ, List.getElem_cons_zero, List.setIfInBounds_toArray, List.set_cons_zero, List.set_cons_succ]
  refine wpAnyZ_ready (rs := [9, 11]) (by kernel_rfl) (by simp) ?_
  refine AllReadyZ.keep rfl (fun K hK => ?_) (AllReadyZ.keep rfl (fun K hK => ?_) (AllReadyZ.nil))
  ·
    go_simp
    refine hK.out _ _ ?_ (fun hHeld => ?_)
    · (try dsimp only)
      refine ⟨?_, ?_, ?_, ?_⟩ <;> (first | with_reducible assumption | (go_simp; done))
    clear hK K
    try simp only [Act.put, List.getElem_toArray, List.getElem_cons_succ, List.getElem_cons_zero, List.setIfInBounds_toArray, List.set_cons_zero, List.set_cons_succ]
    refine wpAnyZ_ready (rs := [11]) (by kernel_rfl) (by simp) ?_
    refine AllReadyZ.keep rfl (fun K hK => ?_) (AllReadyZ.nil)
    go_simp
    go_at_call 62
    refine (pick_any _ ?_ _ _ ?_ ?_).mono ?_
    rotate_left
    · (repeat (first | assumption | refine Rd.ext ?_ | refine Rd.drew ?_ | refine Rd.drewN ?_ | refine Rd.set (by assumption) ?_ | refine Rd.lit (by assumption) (by simp) ?_ | refine Rd.alloc ?_ _ | omega))
    · omega
    rintro e w' ⟨u, d6, rfl, g0, g1, g2, rfl⟩
    replace g1 := g1 (by omega)
    clear g2
    obtain ⟨kk, hkk, kk0, kk1⟩ := half3 g0 g1
    refine hK.out _ _ ?_ (fun hHeld => ?_)
    · (try dsimp only)
      refine ⟨?_, ?_, ?_, ?_⟩ <;> (first | with_reducible assumption | (go_simp; done))
    clear hK K
    try simp only [Act.put, List.getElem_toArray, List.getElem_cons_succ, List.getElem_cons_zero, List.setIfInBounds_toArray, List.set_cons_zero, List.set_cons_succ]
    refine zkP (i := 12) (v := ?_) rfl (by kernel_rfl) (by kernel_rfl) (fun _ _ _ h => h) rfl ?_ (by assumption) ?_; rotate_left; (focus (intro w; go_simp; try with_reducible rfl))
    try simp only [Act.put, List.getElem_toArray, List.getElem_cons_succ, List.getElem_cons_zero, List.setIfInBounds_toArray, List.set_cons_zero, List.set_cons_succ]
    refine zkP (i := 13) (v := ?_) rfl (by kernel_rfl) (by kernel_rfl) (fun _ _ _ h => h) rfl ?_ (by assumption) ?_; rotate_left; (focus (intro w; go_simp; try with_reducible rfl))
    try simp only [Act.put, List.getElem_toArray, List.getElem_cons_succ, List.getElem_cons_zero, List.setIfInBounds_toArray, List.set_cons_zero, List.set_cons_succ]
    refine zkP (i := 15) (v := ?_) rfl (by kernel_rfl) (by kernel_rfl) (fun _ _ _ h => h) rfl ?_ (by assumption) ?_; rotate_left; (focus (intro w; go_simp; try with_reducible rfl))
    try simp only [Act.put, List.getElem_toArray, List.getElem_cons_succ, List.getElem_cons_zero, List.setIfInBounds_toArray, List.set_cons_zero, List.set_cons_succ]
    refine wpAnyZ_ready (rs := [14, 16]) (by kernel_rfl) (by simp) ?_
    refine AllReadyZ.keep rfl (fun K hK => ?_) (AllReadyZ.last rfl (by kernel_rfl) (fun K hK => ?_) (AllReadyZ.nil))
    ·
      go_simp
      refine hK.out _ _ ?_ (fun hHeld => ?_)
      · (try dsimp only)
        refine ⟨?_, ?_, ?_, ?_⟩ <;> (first | with_reducible assumption | (go_simp; done))
      clear hK K
      try simp only [Act.put, List.getElem_toArray, List.getElem_cons_succ, List.getElem_cons_zero, List.setIfInBounds_toArray, List.set_cons_zero, List.set_cons_succ]
      refine wpAnyZ_ready (rs := [16]) (by kernel_rfl) (by simp) ?_
      refine AllReadyZ.last rfl (by kernel_rfl) (fun K hK => ?_) (AllReadyZ.nil)
      go_simp
      refine hK.out _ _ ?_
      clear hK K
      try simp only [Act.put, List.getElem_toArray, List.getElem_cons_succ, List.getElem_cons_zero, List.setIfInBounds_toArray, List.set_cons_zero, List.set_cons_succ]
      refine zkR (i := 17) (v := ?_) rfl (by kernel_rfl) (by kernel_rfl) (fun _ _ _ h => h) (by kernel_rfl) ?_ ?_; rotate_left; (focus (intro w; go_simp; try with_reducible rfl))
      try simp only [Act.put, List.getElem_toArray, List.getElem_cons_succ, List.getElem_cons_zero, List.setIfInBounds_toArray, List.set_cons_zero, List.set_cons_succ]
      refine zkR (i := 18) (v := ?_) rfl (by kernel_rfl) (by kernel_rfl) (fun _ _ _ h => h) (by kernel_rfl) ?_ ?_; rotate_left; (focus (intro w; go_simp; try with_reducible rfl))
      try simp only [Act.put, List.getElem_toArray, List.getElem_cons_succ, List.getElem_cons_zero, List.setIfInBounds_toArray, List.set_cons_zero, List.set_cons_succ]
      refine wpAnyZ_done (by kernel_rfl) ?_ _
      go_wp2
      refine bodyPost_ret (v := .tuple #[.slice A1 t.length cap1, .agg #[.int .i64 a0, .int .i64 b0, .int .i64 c0, .int .i64 d0], .string x, .string (selS kk [y, z])]) ?_ rfl ?_
      · simp only [results, Tryz.results32]
        go_simp
      · have hsel : (selS kk [y, z]).size ≤ 54 := selS_size (fun z' hz' => by
          simp at hz'
          rcases hz' with rfl | rfl
          · exact hy
          · exact hz)
        refine ⟨_, t, _, _, _, _, _, _, rfl, ⟨cs, TreeC.mono (B := W0.heap.size) ?_ (by omega)⟩, hn1, hn2, hx, hsel, ?_⟩
        · (repeat (first | with_reducible exact HT2.out | with_reducible refine TreeC.ext ?_ | with_reducible refine TreeC.alloc ?_ _ | with_reducible refine TreeC.rset ?_ (by omega)))
        · (repeat (first | with_reducible exact Hbl.out | with_reducible refine Below.ext ?_ (by first | omega | (simp; omega) | (simp; done)) | with_reducible refine Below.alloc ?_ (by first | omega | (simp; omega) | (simp; done)) _ | with_reducible refine Below.setCell ?_ (by first | omega | (simp; omega) | (simp; done)) _))
    ·
      go_simp
      refine hK.out _ _ ?_
      clear hK K
      try simp only [Act.put, List.getElem_toArray, List.getElem_cons_succ, List.getElem_cons_zero, List.setIfInBounds_toArray, List.set_cons_zero, List.set_cons_succ]
      refine zkR (i := 17) (v := ?_) rfl (by kernel_rfl) (by kernel_rfl) (fun _ _ _ h => h) (by kernel_rfl) ?_ ?_; rotate_left; (focus (intro w; go_simp; try with_reducible rfl))
      try simp only [Act.put, List.getElem_toArray, List.getElem_cons_succ, List.getElem_cons_zero, List.setIfInBounds_toArray, List.set_cons_zero, List.set_cons_succ]
      refine wpAnyZ_ready (rs := [14]) (by kernel_rfl) (by simp) ?_
      refine AllReadyZ.last rfl (by kernel_rfl) (fun K hK => ?_) (AllReadyZ.nil)
      go_simp
      refine hK.out _ _ ?_
      clear hK K
      try simp only [Act.put, List.getElem_toArray, List.getElem_cons_succ, List.getElem_cons_zero, List.setIfInBounds_toArray, List.set_cons_zero, List.set_cons_succ]
      refine zkR (i := 18) (v := ?_) rfl (by kernel_rfl) (by kernel_rfl) (fun _ _ _ h => h) (by kernel_rfl) ?_ ?_; rotate_left; (focus (intro w; go_simp; try with_reducible rfl))
      try simp only [Act.put, List.getElem_toArray, List.getElem_cons_succ, List.getElem_cons_zero, List.setIfInBounds_toArray, List.set_cons_zero, List.set_cons_succ]
      refine wpAnyZ_done (by kernel_rfl) ?_ _
      go_wp2
      refine bodyPost_ret (v := .tuple #[.slice A1 t.length cap1, .agg #[.int .i64 a0, .int .i64 b0, .int .i64 c0, .int .i64 d0], .string x, .string (selS kk [y, z])]) ?_ rfl ?_
      · simp only [results, Tryz.results32]
        go_simp
      · have hsel : (selS kk [y, z]).size ≤ 54 := selS_size (fun z' hz' => by
          simp at hz'
          rcases hz' with rfl | rfl
          · exact hy
          · exact hz)
        refine ⟨_, t, _, _, _, _, _, _, rfl, ⟨cs, TreeC.mono (B := W0.heap.size) ?_ (by omega)⟩, hn1, hn2, hx, hsel, ?_⟩
        · (repeat (first | with_reducible exact HT2.out | with_reducible refine TreeC.ext ?_ | with_reducible refine TreeC.alloc ?_ _ | with_reducible refine TreeC.rset ?_ (by omega)))
        · (repeat (first | with_reducible exact Hbl.out | with_reducible refine Below.ext ?_ (by first | omega | (simp; omega) | (simp; done)) | with_reducible refine Below.alloc ?_ (by first | omega | (simp; omega) | (simp; done)) _ | with_reducible refine Below.setCell ?_ (by first | omega | (simp; omega) | (simp; done)) _))
  ·
    go_simp
    go_at_call 62
    refine (pick_any _ ?_ _ _ ?_ ?_).mono ?_
    rotate_left
    · (repeat (first | assumption | refine Rd.ext ?_ | refine Rd.drew ?_ | refine Rd.drewN ?_ | refine Rd.set (by assumption) ?_ | refine Rd.lit (by assumption) (by simp) ?_ | refine Rd.alloc ?_ _ | omega))
    · omega
    rintro e w' ⟨u, d6, rfl, g0, g1, g2, rfl⟩
    replace g1 := g1 (by omega)
    clear g2
    obtain ⟨kk, hkk, kk0, kk1⟩ := half3 g0 g1
    refine hK.out _ _ ?_ (fun hHeld => ?_)
    · (try dsimp only)
      refine ⟨?_, ?_, ?_, ?_⟩ <;> (first | with_reducible assumption | (go_simp; done))
    clear hK K
    try simp only [Act.put, List.getElem_toArray, List.getElem_cons_succ, List.getElem_cons_zero, List.setIfInBounds_toArray, List.set_cons_zero, List.set_cons_succ]
    refine zkP (i := 12) (v := ?_) rfl (by kernel_rfl) (by kernel_rfl) (fun _ _ _ h => h) rfl ?_ (by assumption) ?_; rotate_left; (focus (intro w; go_simp; try with_reducible rfl))
    try simp only [Act.put, List.getElem_toArray, List.getElem_cons_succ, List.getElem_cons_zero, List.setIfInBounds_toArray, List.set_cons_zero, List.set_cons_succ]
    refine zkP (i := 15) (v := ?_) rfl (by kernel_rfl) (by kernel_rfl) (fun _ _ _ h => h) rfl ?_ (by assumption) ?_; rotate_left; (focus (intro w; go_simp; try with_reducible rfl))
    try simp only [Act.put, List.getElem_toArray, List.getElem_cons_succ, List.getElem_cons_zero, List.setIfInBounds_toArray, List.set_cons_zero, List.set_cons_succ]
    refine wpAnyZ_ready (rs := [9, 16]) (by kernel_rfl) (by simp) ?_
    refine AllReadyZ.keep rfl (fun K hK => ?_) (AllReadyZ.last rfl (by kernel_rfl) (fun K hK => ?_) (AllReadyZ.nil))
    ·
      go_simp
      refine hK.out _ _ ?_ (fun hHeld => ?_)
      · (try dsimp only)
        refine ⟨?_, ?_, ?_, ?_⟩ <;> (first | with_reducible assumption | (go_simp; done))
      clear hK K
      try simp only [Act.put, List.getElem_toArray, List.getElem_cons_succ, List.getElem_cons_zero, List.setIfInBounds_toArray, List.set_cons_zero, List.set_cons_succ]
      refine zkP (i := 13) (v := ?_) rfl (by kernel_rfl) (by kernel_rfl) (fun _ _ _ h => h) rfl ?_ (by assumption) ?_; rotate_left; (focus (intro w; go_simp; try with_reducible rfl))
      try simp only [Act.put, List.getElem_toArray, List.getElem_cons_succ, List.getElem_cons_zero, List.setIfInBounds_toArray, List.set_cons_zero, List.set_cons_succ]
      refine wpAnyZ_ready (rs := [14, 16]) (by kernel_rfl) (by simp) ?_
      refine AllReadyZ.keep rfl (fun K hK => ?_) (AllReadyZ.last rfl (by kernel_rfl) (fun K hK => ?_) (AllReadyZ.nil))
      ·
        go_simp
        refine hK.out _ _ ?_ (fun hHeld => ?_)
        · (try dsimp only)
          refine ⟨?_, ?_, ?_, ?_⟩ <;> (first | with_reducible assumption | (go_simp; done))
        clear hK K
        try simp only [Act.put, List.getElem_toArray, List.getElem_cons_succ, List.getElem_cons_zero, List.setIfInBounds_toArray, List.set_cons_zero, List.set_cons_succ]
        refine wpAnyZ_ready (rs := [16]) (by kernel_rfl) (by simp) ?_
        refine AllReadyZ.last rfl (by kernel_rfl) (fun K hK => ?_) (AllReadyZ.nil)
        go_simp
        refine hK.out _ _ ?_
        clear hK K
        try simp only [Act.put, List.getElem_toArray, List.getElem_cons_succ, List.getElem_cons_zero, List.setIfInBounds_toArray, List.set_cons_zero, List.set_cons_succ]
        refine zkR (i := 17) (v := ?_) rfl (by kernel_rfl) (by kernel_rfl) (fun _ _ _ h => h) (by kernel_rfl) ?_ ?_; rotate_left; (focus (intro w; go_simp; try with_reducible rfl))
        try simp only [Act.put, List.getElem_toArray, List.getElem_cons_succ, List.getElem_cons_zero, List.setIfInBounds_toArray, List.set_cons_zero, List.set_cons_succ]
        refine zkR (i := 18) (v := ?_) rfl (by kernel_rfl) (by kernel_rfl) (fun _ _ _ h => h) (by kernel_rfl) ?_ ?_; rotate_left; (focus (intro w; go_simp; try with_reducible rfl))
        try simp only [Act.put, List.getElem_toArray, List.getElem_cons_succ, List.getElem_cons_zero, List.setIfInBounds_toArray, List.set_cons_zero, List.set_cons_succ]
        refine wpAnyZ_done (by kernel_rfl) ?_ _
        go_wp2
        refine bodyPost_ret (v := .tuple #[.slice A1 t.length cap1, .agg #[.int .i64 a0, .int .i64 b0, .int .i64 c0, .int .i64 d0], .string x, .string (selS kk [y, z])]) ?_ rfl ?_
        · simp only [results, Tryz.results32]
          go_simp
        · have hsel : (selS kk [y, z]).size ≤ 54 := selS_size (fun z' hz' => by
            simp at hz'
            rcases hz' with rfl | rfl
            · exact hy
            · exact hz)
          refine ⟨_, t, _, _, _, _, _, _, rfl, ⟨cs, TreeC.mono (B := W0.heap.size) ?_ (by omega)⟩, hn1, hn2, hx, hsel, ?_⟩
          · (repeat (first | with_reducible exact HT2.out | with_reducible refine TreeC.ext ?_ | with_reducible refine TreeC.alloc ?_ _ | with_reducible refine TreeC.rset ?_ (by omega)))
          · (repeat (first | with_reducible exact Hbl.out | with_reducible refine Below.ext ?_ (by first | omega | (simp; omega) | (simp; done)) | with_reducible refine Below.alloc ?_ (by first | omega | (simp; omega) | (simp; done)) _ | with_reducible refine Below.setCell ?_ (by first | omega | (simp; omega) | (simp; done)) _))
      ·
        go_simp
        refine hK.out _ _ ?_
        clear hK K
        try simp only [Act.put, List.getElem_toArray, List.getElem_cons_succ, List.getElem_cons_zero, List.setIfInBounds_toArray, List.set_cons_zero, List.set_cons_succ]
        refine zkR (i := 17) (v := ?_) rfl (by kernel_rfl) (by kernel_rfl) (fun _ _ _ h => h) (by kernel_rfl) ?_ ?_; rotate_left; (focus (intro w; go_simp; try with_reducible rfl))
        try simp only [Act.put, List.getElem_toArray, List.getElem_cons_succ, List.getElem_cons_zero, List.setIfInBounds_toArray, List.set_cons_zero, List.set_cons_succ]
        refine wpAnyZ_ready (rs := [14]) (by kernel_rfl) (by simp) ?_
        refine AllReadyZ.last rfl (by kernel_rfl) (fun K hK => ?_) (AllReadyZ.nil)
        go_simp
        refine hK.out _ _ ?_
        clear hK K
        try simp only [Act.put, List.getElem_toArray, List.getElem_cons_succ, List.getElem_cons_zero, List.setIfInBounds_toArray, List.set_cons_zero, List.set_cons_succ]
        refine zkR (i := 18) (v := ?_) rfl (by kernel_rfl) (by kernel_rfl) (fun _ _ _ h => h) (by kernel_rfl) ?_ ?_; rotate_left; (focus (intro w; go_simp; try with_reducible rfl))
        try simp only [Act.put, List.getElem_toArray, List.getElem_cons_succ, List.getElem_cons_zero, List.setIfInBounds_toArray, List.set_cons_zero, List.set_cons_succ]
        refine wpAnyZ_done (by kernel_rfl) ?_ _
        go_wp2
        refine bodyPost_ret (v := .tuple #[.slice A1 t.length cap1, .agg #[.int .i64 a0, .int .i64 b0, .int .i64 c0, .int .i64 d0], .string x, .string (selS kk [y, z])]) ?_ rfl ?_
        · simp only [results, Tryz.results32]
          go_simp
        · have hsel : (selS kk [y, z]).size ≤ 54 := selS_size (fun z' hz' => by
            simp at hz'
            rcases hz' with rfl | rfl
            · exact hy
            · exact hz)
          refine ⟨_, t, _, _, _, _, _, _, rfl, ⟨cs, TreeC.mono (B := W0.heap.size) ?_ (by omega)⟩, hn1, hn2, hx, hsel, ?_⟩
          · (repeat (first | with_reducible exact HT2.out | with_reducible refine TreeC.ext ?_ | with_reducible refine TreeC.alloc ?_ _ | with_reducible refine TreeC.rset ?_ (by omega)))
          · (repeat (first | with_reducible exact Hbl.out | with_reducible refine Below.ext ?_ (by first | omega | (simp; omega) | (simp; done)) | with_reducible refine Below.alloc ?_ (by first | omega | (simp; omega) | (simp; done)) _ | with_reducible refine Below.setCell ?_ (by first | omega | (simp; omega) | (simp; done)) _))
    ·
      go_simp
      refine hK.out _ _ ?_
      clear hK K
      try simp only [Act.put, List.getElem_toArray, List.getElem_cons_succ, List.getElem_cons_zero, List.setIfInBounds_toArray, List.set_cons_zero, List.set_cons_succ]
      refine zkR (i := 17) (v := ?_) rfl (by kernel_rfl) (by kernel_rfl) (fun _ _ _ h => h) (by kernel_rfl) ?_ ?_; rotate_left; (focus (intro w; go_simp; try with_reducible rfl))
      try simp only [Act.put, List.getElem_toArray, List.getElem_cons_succ, List.getElem_cons_zero, List.setIfInBounds_toArray, List.set_cons_zero, List.set_cons_succ]
      refine wpAnyZ_ready (rs := [9]) (by kernel_rfl) (by simp) ?_
      refine AllReadyZ.last rfl (by kernel_rfl) (fun K hK => ?_) (AllReadyZ.nil)
      go_simp
      refine hK.out _ _ ?_
      clear hK K
      try simp only [Act.put, List.getElem_toArray, List.getElem_cons_succ, List.getElem_cons_zero, List.setIfInBounds_toArray, List.set_cons_zero, List.set_cons_succ]
      refine zkR (i := 13) (v := ?_) rfl (by kernel_rfl) (by kernel_rfl) (fun _ _ _ h => h) (by kernel_rfl) ?_ ?_; rotate_left; (focus (intro w; go_simp; try with_reducible rfl))
      try simp only [Act.put, List.getElem_toArray, List.getElem_cons_succ, List.getElem_cons_zero, List.setIfInBounds_toArray, List.set_cons_zero, List.set_cons_succ]
      refine wpAnyZ_ready (rs := [14]) (by kernel_rfl) (by simp) ?_
      refine AllReadyZ.last rfl (by kernel_rfl) (fun K hK => ?_) (AllReadyZ.nil)
      go_simp
      refine hK.out _ _ ?_
      clear hK K
      try simp only [Act.put, List.getElem_toArray, List.getElem_cons_succ, List.getElem_cons_zero, List.setIfInBounds_toArray, List.set_cons_zero, List.set_cons_succ]
      refine zkR (i := 18) (v := ?_) rfl (by kernel_rfl) (by kernel_rfl) (fun _ _ _ h => h) (by kernel_rfl) ?_ ?_; rotate_left; (focus (intro w; go_simp; try with_reducible rfl))
      try simp only [Act.put, List.getElem_toArray, List.getElem_cons_succ, List.getElem_cons_zero, List.setIfInBounds_toArray, List.set_cons_zero, List.set_cons_succ]
      refine wpAnyZ_done (by kernel_rfl) ?_ _
      go_wp2
      refine bodyPost_ret (v := .tuple #[.slice A1 t.length cap1, .agg #[.int .i64 a0, .int .i64 b0, .int .i64 c0, .int .i64 d0], .string x, .string (selS kk [y, z])]) ?_ rfl ?_
      · simp only [results, Tryz.results32]
        go_simp
      · have hsel : (selS kk [y, z]).size ≤ 54 := selS_size (fun z' hz' => by
          simp at hz'
          rcases hz' with rfl | rfl
          · exact hy
          · exact hz)
        refine ⟨_, t, _, _, _, _, _, _, rfl, ⟨cs, TreeC.mono (B := W0.heap.size) ?_ (by omega)⟩, hn1, hn2, hx, hsel, ?_⟩
        · (repeat (first | with_reducible exact HT2.out | with_reducible refine TreeC.ext ?_ | with_reducible refine TreeC.alloc ?_ _ | with_reducible refine TreeC.rset ?_ (by omega)))
        · (repeat (first | with_reducible exact Hbl.out | with_reducible refine Below.ext ?_ (by first | omega | (simp; omega) | (simp; done)) | with_reducible refine Below.alloc ?_ (by first | omega | (simp; omega) | (simp; done)) _ | with_reducible refine Below.setCell ?_ (by first | omega | (simp; omega) | (simp; done)) _))
end Go.Proofs.YtkennmpbmbacpaaGreatDoor
