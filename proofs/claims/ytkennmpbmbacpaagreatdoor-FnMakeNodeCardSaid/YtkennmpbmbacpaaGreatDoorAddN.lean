/- The package's 'addName': a name goes into a directory. -/
import Derived.Test.YtkennmpbmbacpaaGreatDoorIns
import Derived.Test.YtkennmpbmbacpaaGreatDoorTreeR
import Derived.Test.YtkennmpbmbacpaaGreatDoorHeldZ
set_option linter.unusedSimpArgs false
set_option linter.unusedVariables false
set_option linter.unusedSectionVars false
namespace Go.Proofs.YtkennmpbmbacpaaGreatDoor
open Go.RowKit

theorem cellN {w : World} {c : Array Value} {T : TypeId} : (w.alloc (.cells c T)).heap[w.heap.size]? = some (.cells c T (0, 0)) := heap_alloc_new w _
theorem cellN1 {w : World} {c : Array Value} {T : TypeId} {Y : Obj} : ((w.alloc (.cells c T)).alloc Y).heap[w.heap.size]? = some (.cells c T (0, 0)) := (heap_alloc_old (w.alloc (.cells c T)) Y (by rw [World.size_alloc]; exact Nat.lt_succ_self _)).trans cellN
theorem cellN2 {w : World} {c : Array Value} {T : TypeId} {Y : Obj} : ((w.alloc Y).alloc (.cells c T)).heap[w.heap.size + 1]? = some (.cells c T (0, 0)) := by
  have := cellN (w := w.alloc Y) (c := c) (T := T)
  rwa [World.size_alloc] at this
set_option maxRecDepth 100000 in
set_option maxHeartbeats 1000000 in
theorem addName_of (g o : Nat) (x : Nd) (s : List UInt8) (z : Int) (nA : Option Addr) (nC : Nat) (kA : Option Addr) (kC : Nat) (w : World) (B : Nat)
    (h5 : w.cell? ⟨g, o + 5, none⟩ = some (.slice nA x.ns.length nC)) (h6 : w.cell? ⟨g, o + 6, none⟩ = some (.slice kA x.ks.length kC)) (f5 : w.frozen? ⟨g, o + 5, none⟩ = false) (f6 : w.frozen? ⟨g, o + 6, none⟩ = false)
    (hN : OwnG EL 9 B w (.slice nA x.ns.length nC) x.ns) (hK : OwnG EI 3 B w (.slice kA x.ks.length kC) x.ks) (hgN : (Value.slice nA x.ns.length nC).ownBlock ≠ some g) (hgK : (Value.slice kA x.ks.length kC).ownBlock ≠ some g)
    (hA : Asc x) (hl : x.ns.length = x.ks.length) (hb : x.ns.length ≤ 1000000) (hB : B ≤ w.heap.size) :
    Calls Tryz.prog 68 #[.pointer (some ⟨g, o, none⟩), .string (mk s), .int .i64 z] w fun e w' => e = .returned (.tuple #[]) ∧ ∃ w1 w2 A1 c1 A2 c2, w.grownBy w1 (Value.slice nA x.ns.length nC).ownBlock ∧ w1.grownBy w2 (Value.slice kA x.ks.length kC).ownBlock ∧
      OwnG EL 9 B w2 (.slice A1 (x.ns.length + 1) c1) (putF x s z).ns ∧ OwnG EI 3 B w2 (.slice A2 (x.ks.length + 1) c2) (putF x s z).ks ∧ NewIn w (Value.slice nA x.ns.length nC).ownBlock (.slice A1 (x.ns.length + 1) c1) ∧ NewIn w (Value.slice kA x.ks.length kC).ownBlock (.slice A2 (x.ks.length + 1) c2) ∧
      w' = (w2.setCell ⟨g, o + 5, none⟩ (.slice A1 (x.ns.length + 1) c1)).setCell ⟨g, o + 6, none⟩ (.slice A2 (x.ks.length + 1) c2) := by
  have HS := Lib.hid (fun w h => searchI_of nA nC x s w h hA hb)
  have HN := Lib.hid hN
  have HK := Lib.hid hK
  have hp := putAt_le x s
  have hg := World.block_lt_of_cell? w _ h5
  have Hl := Lib.hid hl
  have hb2 : x.ks.length ≤ 1000000 := by omega
  obtain ⟨p, hpp⟩ : ∃ p, p = putAt x s := ⟨_, rfl⟩
  rw [← hpp] at HS hp
  have Hpp := Lib.hid hpp
  clear hl hA hpp hN hK
  go_enter Tryz.func68, Tryz.ntmps68
  go_wp2_with fail
  refine (HS.out _ (ownG_sl HN.out)).mono ?_
  rintro e w1 ⟨rfl, q, rfl⟩
  obtain ⟨W0, hW0⟩ : ∃ W0, W0 = w.drewN q := ⟨_, rfl⟩
  have e0 : W0.heap.size = w.heap.size := by rw [hW0]; simp
  have g0 : ∀ row, w.grownBy W0 row := fun row => by rw [hW0]; exact Lib.grownBy_below (World.grownBy.refl w _) (below_drewN (Below.refl _ _) _)
  rw [← hW0]
  have HN0 := Lib.hid (ownG_below HN.out (show Below w.heap.size w W0 by rw [hW0]; exact below_drewN (Below.refl _ _) _))
  have HK0 := Lib.hid (ownG_below HK.out (show Below w.heap.size w W0 by rw [hW0]; exact below_drewN (Below.refl _ _) _))
  replace h5 : W0.cell? ⟨g, o + 5, none⟩ = some (.slice nA x.ns.length nC) := by rw [hW0]; exact h5
  replace h6 : W0.cell? ⟨g, o + 6, none⟩ = some (.slice kA x.ks.length kC) := by rw [hW0]; exact h6
  replace f5 : W0.frozen? ⟨g, o + 5, none⟩ = false := by rw [hW0]; exact f5
  replace f6 : W0.frozen? ⟨g, o + 6, none⟩ = false := by rw [hW0]; exact f6
  replace hg : g < W0.heap.size := by omega
  replace hB : B ≤ W0.heap.size := by omega
  have G0 := Lib.hid g0
  have E0 := Lib.hid e0
  clear hW0 g0 HN HK e0
  have hpk : p ≤ x.ks.length := by have := Hl.out; omega
  go_wp2_with fail
  refine wp_region_Z (fun w' => w'.cell? ⟨g, o + 5, none⟩ = some (.slice nA x.ns.length nC) ∧ w'.cell? ⟨g, o + 6, none⟩ = some (.slice kA x.ks.length kC)) 20 (by kernel_rfl) ?_ (fun hHeld => ?_)
  · (try dsimp only)
    first | exact ⟨by assumption, by assumption⟩ | (go_simp; done) | (constructor <;> (first | assumption | (go_simp; done)))
  refine zkP (i := 0) (v := ?_) rfl (by kernel_rfl) (by kernel_rfl) (fun _ _ _ h => h) rfl ?_ (by assumption) ?_; rotate_left; (focus (intro w; go_simp; try with_reducible rfl))
  try simp only [Act.put, List.getElem_toArray, List.getElem_cons_succ, List.getElem_cons_zero, List.setIfInBounds_toArray, List.set_cons_zero, List.set_cons_succ]
  refine zkP (i := 1) (v := ?_) rfl (by kernel_rfl) (by kernel_rfl) (fun _ _ _ h => h) rfl ?_ (by assumption) ?_; rotate_left; (focus (intro w; go_simp; try with_reducible rfl))
  try simp only [Act.put, List.getElem_toArray, List.getElem_cons_succ, List.getElem_cons_zero, List.setIfInBounds_toArray, List.set_cons_zero, List.set_cons_succ]
  refine zkP (i := 2) (v := ?_) rfl (by kernel_rfl) (by kernel_rfl) (fun _ _ _ h => h) rfl ?_ (by assumption) ?_; rotate_left; (focus (intro w; go_simp; try with_reducible rfl))
  try simp only [Act.put, List.getElem_toArray, List.getElem_cons_succ, List.getElem_cons_zero, List.setIfInBounds_toArray, List.set_cons_zero, List.set_cons_succ]
  refine zkP (i := 3) (v := ?_) rfl (by kernel_rfl) (by kernel_rfl) (fun _ _ _ h => h) rfl ?_ (by assumption) ?_; rotate_left; (focus (intro w; go_simp; try with_reducible rfl))
  try simp only [Act.put, List.getElem_toArray, List.getElem_cons_succ, List.getElem_cons_zero, List.setIfInBounds_toArray, List.set_cons_zero, List.set_cons_succ]
  refine zkP (i := 4) (v := ?_) rfl (by kernel_rfl) (by kernel_rfl) (fun _ _ _ h => h) rfl ?_ (by assumption) ?_; rotate_left; (focus (intro w; go_simp; try with_reducible rfl))
  try simp only [Act.put, List.getElem_toArray, List.getElem_cons_succ, List.getElem_cons_zero, List.setIfInBounds_toArray, List.set_cons_zero, List.set_cons_succ]
  refine zkL (i := 5) (v := ?_) rfl (by kernel_rfl) (by kernel_rfl) (fun _ _ _ h => h) (by kernel_rfl) ?_ (by assumption) ?_; rotate_left; (focus (intro w hSw; (try dsimp only at hSw); go_simp; try with_reducible rfl))
  try simp only [Act.put, List.getElem_toArray, List.getElem_cons_succ, List.getElem_cons_zero, List.setIfInBounds_toArray, List.set_cons_zero, List.set_cons_succ]
  refine zkP (i := 6) (v := ?_) rfl (by kernel_rfl) (by kernel_rfl) (fun _ _ _ h => h) rfl ?_ (by assumption) ?_; rotate_left; (focus (intro w; go_simp; try with_reducible rfl))
  try simp only [Act.put, List.getElem_toArray, List.getElem_cons_succ, List.getElem_cons_zero, List.setIfInBounds_toArray, List.set_cons_zero, List.set_cons_succ]
  refine zkP (i := 7) (v := ?_) rfl (by kernel_rfl) (by kernel_rfl) (fun _ _ _ h => h) rfl ?_ (by assumption) ?_; rotate_left; (focus (intro w; go_simp; try with_reducible rfl))
  try simp only [Act.put, List.getElem_toArray, List.getElem_cons_succ, List.getElem_cons_zero, List.setIfInBounds_toArray, List.set_cons_zero, List.set_cons_succ]
  refine zkP (i := 10) (v := ?_) rfl (by kernel_rfl) (by kernel_rfl) (fun _ _ _ h => h) rfl ?_ (by assumption) ?_; rotate_left; (focus (intro w; go_simp; try with_reducible rfl))
  try simp only [Act.put, List.getElem_toArray, List.getElem_cons_succ, List.getElem_cons_zero, List.setIfInBounds_toArray, List.set_cons_zero, List.set_cons_succ]
  refine zkP (i := 11) (v := ?_) rfl (by kernel_rfl) (by kernel_rfl) (fun _ _ _ h => h) rfl ?_ (by assumption) ?_; rotate_left; (focus (intro w; go_simp; try with_reducible rfl))
  try simp only [Act.put, List.getElem_toArray, List.getElem_cons_succ, List.getElem_cons_zero, List.setIfInBounds_toArray, List.set_cons_zero, List.set_cons_succ]
  refine zkP (i := 12) (v := ?_) rfl (by kernel_rfl) (by kernel_rfl) (fun _ _ _ h => h) rfl ?_ (by assumption) ?_; rotate_left; (focus (intro w; go_simp; try with_reducible rfl))
  try simp only [Act.put, List.getElem_toArray, List.getElem_cons_succ, List.getElem_cons_zero, List.setIfInBounds_toArray, List.set_cons_zero, List.set_cons_succ]
  refine zkL (i := 13) (v := ?_) rfl (by kernel_rfl) (by kernel_rfl) (fun _ _ _ h => h) (by kernel_rfl) ?_ (by assumption) ?_; rotate_left; (focus (intro w hSw; (try dsimp only at hSw); go_simp; try with_reducible rfl))
  try simp only [Act.put, List.getElem_toArray, List.getElem_cons_succ, List.getElem_cons_zero, List.setIfInBounds_toArray, List.set_cons_zero, List.set_cons_succ]
  refine zkP (i := 14) (v := ?_) rfl (by kernel_rfl) (by kernel_rfl) (fun _ _ _ h => h) rfl ?_ (by assumption) ?_; rotate_left; (focus (intro w; go_simp; try with_reducible rfl))
  try simp only [Act.put, List.getElem_toArray, List.getElem_cons_succ, List.getElem_cons_zero, List.setIfInBounds_toArray, List.set_cons_zero, List.set_cons_succ]
  refine zkP (i := 15) (v := ?_) rfl (by kernel_rfl) (by kernel_rfl) (fun _ _ _ h => h) rfl ?_ (by assumption) ?_; rotate_left; (focus (intro w; go_simp; try with_reducible rfl))
  try simp only [Act.put, List.getElem_toArray, List.getElem_cons_succ, List.getElem_cons_zero, List.setIfInBounds_toArray, List.set_cons_zero, List.set_cons_succ]
  refine wpAnyZ_ready (rs := [8, 16]) (by kernel_rfl) (by simp) ?_
  refine AllReadyZ.keep rfl (fun K hK => ?_) (AllReadyZ.keep rfl (fun K hK => ?_) (AllReadyZ.nil))
  ·
    go_simp
    refine hK.out _ _ ?_ (fun hHeld => ?_)
    · (try dsimp only)
      first | exact ⟨by assumption, by assumption⟩ | (go_simp; done) | (constructor <;> (first | assumption | (go_simp; done)))
    clear hK K
    try simp only [Act.put, List.getElem_toArray, List.getElem_cons_succ, List.getElem_cons_zero, List.setIfInBounds_toArray, List.set_cons_zero, List.set_cons_succ]
    refine wpAnyZ_ready (rs := [9, 16]) (by kernel_rfl) (by simp) ?_
    refine AllReadyZ.keep rfl (fun K hK => ?_) (AllReadyZ.keep rfl (fun K hK => ?_) (AllReadyZ.nil))
    ·
      go_simp
      go_at_call 103
      refine (insN_of nA nC x.ns p s _ 9 _ B (ownG_below HN0.out (by (repeat (first | exact Below.refl _ _ | exact Hbl.out | refine Below.ext ?_ (by first | omega | (simp; omega) | simp) | refine Below.setCell ?_ (by first | omega | (simp; omega) | simp) _ | refine Below.alloc ?_ (by first | omega | (simp; omega) | simp) _ | refine Below.drew ?_ | refine below_drewN ?_ _ | refine Below.step (by assumption) (by first | omega | (simp; omega) | simp) ?_)))) hp hb ?_ ?_ ?_).mono ?_
      · first | exact cellN | exact cellN1 | exact cellN2
      · intro e; have := (ownG_block HN0.out _ e).2; first | omega | (simp at this; omega)
      · first | omega | (simp; done) | (simp; omega)
      rintro e u1 ⟨A1, c1, rfl, a1⟩
      have G1 : W0.grownBy u1 (Value.slice nA x.ns.length nC).ownBlock := Lib.grownBy_trans (Lib.grownBy_below (World.grownBy.refl W0 _) (by (repeat (first | exact Below.refl _ _ | exact Hbl.out | refine Below.ext ?_ (by first | omega | (simp; omega) | simp) | refine Below.setCell ?_ (by first | omega | (simp; omega) | simp) _ | refine Below.alloc ?_ (by first | omega | (simp; omega) | simp) _ | refine Below.drew ?_ | refine below_drewN ?_ _ | refine Below.step (by assumption) (by first | omega | (simp; omega) | simp) ?_)))) a1.2.1
      have k5 := G1.cell (a := ⟨g, o + 5, none⟩) h5 (fun e => hgN e.symm)
      have k6 := G1.cell (a := ⟨g, o + 6, none⟩) h6 (fun e => hgN e.symm)
      have q5 := (World.frozen?_of_block (a := ⟨g, o + 5, none⟩) (G1.block g hg (fun e => hgN e.symm))).trans f5
      have q6 := (World.frozen?_of_block (a := ⟨g, o + 6, none⟩) (G1.block g hg (fun e => hgN e.symm))).trans f6
      have m1 : OwnG EI 3 B u1 (.slice kA x.ks.length kC) x.ks := ownG_kept HK0.out G1 (ownG_type HK0.out HN0.out (by decide))
      have N1 : NewIn W0 (Value.slice nA x.ns.length nC).ownBlock (.slice A1 (x.ns.length + 1) c1) := a1.2.2.imp id (fun e => ⟨_, e, by first | omega | (simp; omega) | simp⟩)
      have o1 := a1.1
      have b1 := a1.2.1.block
      have z1 := G1.size
      have hg1 : g < u1.heap.size := Nat.lt_of_lt_of_le hg z1
      have G1' := Lib.hid G1
      have N1' := Lib.hid N1
      have O1 := Lib.hid o1
      have M1 := Lib.hid m1
      have BL1 := Lib.hid b1
      clear a1 G1 N1 o1 m1 b1
      refine hK.out _ _ ?_ (fun hHeld => ?_)
      · (try dsimp only)
        first | exact ⟨by assumption, by assumption⟩ | (go_simp; done) | (constructor <;> (first | assumption | (go_simp; done)))
      clear hK K
      try simp only [Act.put, List.getElem_toArray, List.getElem_cons_succ, List.getElem_cons_zero, List.setIfInBounds_toArray, List.set_cons_zero, List.set_cons_succ]
      refine wpAnyZ_ready (rs := [16]) (by kernel_rfl) (by simp) ?_
      refine AllReadyZ.keep rfl (fun K hK => ?_) (AllReadyZ.nil)
      go_simp
      refine hK.out _ _ ?_ (fun hHeld => ?_)
      · (try dsimp only)
        first | exact ⟨by assumption, by assumption⟩ | (go_simp; done) | (constructor <;> (first | assumption | (go_simp; done)))
      clear hK K
      try simp only [Act.put, List.getElem_toArray, List.getElem_cons_succ, List.getElem_cons_zero, List.setIfInBounds_toArray, List.set_cons_zero, List.set_cons_succ]
      refine wpAnyZ_ready (rs := [17]) (by kernel_rfl) (by simp) ?_
      refine AllReadyZ.keep rfl (fun K hK => ?_) (AllReadyZ.nil)
      go_simp
      go_at_call 104
      refine (insK_of kA kC x.ks p z _ 3 _ B (by first | exact M1.out | exact ownG_alloc M1.out _) hpk hb2 ?_ ?_ ?_).mono ?_
      · first | exact cellN | (refine (BL1.out _ ?_ ?_).trans ?_; (focus (simp; try omega)); (focus (intro e; have := (ownG_block HN0.out _ e.symm).2; first | omega | (simp at this; omega))); (focus (first | exact cellN | exact cellN1 | exact cellN2)))
      · intro e; have := (ownG_block HK0.out _ e).2; first | omega | (simp at this; omega)
      · first | omega | (simp; done) | (simp; omega)
      rintro e u2 ⟨A2, c2, rfl, a2⟩
      have G2 : u1.grownBy u2 (Value.slice kA x.ks.length kC).ownBlock := Lib.grownBy_trans (Lib.grownBy_below (World.grownBy.refl u1 _) (by first | exact Below.refl _ _ | exact Below.alloc (Below.refl _ _) (Nat.le_refl _) _)) a2.2.1
      have y5 := G2.cell (a := ⟨g, o + 5, none⟩) k5 (fun e => hgK e.symm)
      have y6 := G2.cell (a := ⟨g, o + 6, none⟩) k6 (fun e => hgK e.symm)
      have r5 := (World.frozen?_of_block (a := ⟨g, o + 5, none⟩) (G2.block g hg1 (fun e => hgK e.symm))).trans q5
      have r6 := (World.frozen?_of_block (a := ⟨g, o + 6, none⟩) (G2.block g hg1 (fun e => hgK e.symm))).trans q6
      have o2 : OwnG EL 9 B u2 (.slice A1 (x.ns.length + 1) c1) (x.ns.take p ++ s :: x.ns.drop p) := ownG_kept O1.out G2 (ownG_type O1.out M1.out (by decide))
      have N2 : NewIn W0 (Value.slice kA x.ks.length kC).ownBlock (.slice A2 (x.ks.length + 1) c2) := a2.2.2.imp id (fun e => ⟨_, e, by first | omega | (simp; omega)⟩)
      have O2 := Lib.hid o2
      have P2 := Lib.hid a2.1
      have G2' := Lib.hid G2
      have N2' := Lib.hid N2
      clear a2 o2 G2 N2 k5 k6 q5 q6
      refine hK.out _ _ ?_ (fun hHeld => ?_)
      · (try dsimp only)
        first | exact ⟨by assumption, by assumption⟩ | (go_simp; done) | (constructor <;> (first | assumption | (go_simp; done)))
      clear hK K
      try simp only [Act.put, List.getElem_toArray, List.getElem_cons_succ, List.getElem_cons_zero, List.setIfInBounds_toArray, List.set_cons_zero, List.set_cons_succ]
      refine zkP (i := 18) (v := ?_) rfl (by kernel_rfl) (by kernel_rfl) (fun _ _ _ h => h) rfl ?_ (by assumption) ?_; rotate_left; (focus (intro w; go_simp; try with_reducible rfl))
      try simp only [Act.put, List.getElem_toArray, List.getElem_cons_succ, List.getElem_cons_zero, List.setIfInBounds_toArray, List.set_cons_zero, List.set_cons_succ]
      refine zkP (i := 19) (v := ?_) rfl (by kernel_rfl) (by kernel_rfl) (fun _ _ _ h => h) rfl ?_ (by assumption) ?_; rotate_left; (focus (intro w; go_simp; try with_reducible rfl))
      try simp only [Act.put, List.getElem_toArray, List.getElem_cons_succ, List.getElem_cons_zero, List.setIfInBounds_toArray, List.set_cons_zero, List.set_cons_succ]
      refine wpAnyZ_ready (rs := [20]) (by kernel_rfl) (by simp) ?_
      refine AllReadyZ.last rfl (by kernel_rfl) (fun K hK => ?_) (AllReadyZ.nil)
      go_simp
      refine hK.out _ _ ?_
      clear hK K
      try simp only [Act.put, List.getElem_toArray, List.getElem_cons_succ, List.getElem_cons_zero, List.setIfInBounds_toArray, List.set_cons_zero, List.set_cons_succ]
      refine wpAnyZ_ready (rs := [21]) (by kernel_rfl) (by simp) ?_
      refine AllReadyZ.last rfl (by kernel_rfl) (fun K hK => ?_) (AllReadyZ.nil)
      go_simp
      refine hK.out _ _ ?_
      clear hK K
      try simp only [Act.put, List.getElem_toArray, List.getElem_cons_succ, List.getElem_cons_zero, List.setIfInBounds_toArray, List.set_cons_zero, List.set_cons_succ]
      refine wpAnyZ_ready (rs := [22]) (by kernel_rfl) (by simp) ?_
      refine AllReadyZ.last rfl (by kernel_rfl) (fun K hK => ?_) (AllReadyZ.nil)
      go_simp
      refine hK.out _ _ ?_
      clear hK K
      try simp only [Act.put, List.getElem_toArray, List.getElem_cons_succ, List.getElem_cons_zero, List.setIfInBounds_toArray, List.set_cons_zero, List.set_cons_succ]
      refine wpAnyZ_ready (rs := [23]) (by kernel_rfl) (by simp) ?_
      refine AllReadyZ.last rfl (by kernel_rfl) (fun K hK => ?_) (AllReadyZ.nil)
      go_simp
      refine hK.out _ _ ?_
      clear hK K
      try simp only [Act.put, List.getElem_toArray, List.getElem_cons_succ, List.getElem_cons_zero, List.setIfInBounds_toArray, List.set_cons_zero, List.set_cons_succ]
      refine wpAnyZ_done (by kernel_rfl) ?_ _
      go_wp2
      refine bodyPost_end (v := .tuple #[]) ?_ rfl ⟨rfl, u1, u2, A1, c1, A2, c2, Lib.grownBy_trans (G0.out _) G1'.out, G2'.out, ?_, ?_, ?_, ?_, rfl⟩
      · first | rfl | (simp [results, Tryz.results68, go_sem]; done)
      · have := O2.out; rw [Hpp.out] at this; exact this
      · have := P2.out; rw [Hpp.out] at this; exact this
      · exact N1'.out.imp id (fun ⟨j, e, h⟩ => ⟨j, e, by have := E0.out; omega⟩)
      · exact N2'.out.imp id (fun ⟨j, e, h⟩ => ⟨j, e, by have := E0.out; omega⟩)
    ·
      go_simp
      refine hK.out _ _ ?_ (fun hHeld => ?_)
      · (try dsimp only)
        first | exact ⟨by assumption, by assumption⟩ | (go_simp; done) | (constructor <;> (first | assumption | (go_simp; done)))
      clear hK K
      try simp only [Act.put, List.getElem_toArray, List.getElem_cons_succ, List.getElem_cons_zero, List.setIfInBounds_toArray, List.set_cons_zero, List.set_cons_succ]
      refine wpAnyZ_ready (rs := [9]) (by kernel_rfl) (by simp) ?_
      refine AllReadyZ.keep rfl (fun K hK => ?_) (AllReadyZ.nil)
      go_simp
      go_at_call 103
      refine (insN_of nA nC x.ns p s _ 9 _ B (ownG_below HN0.out (by (repeat (first | exact Below.refl _ _ | exact Hbl.out | refine Below.ext ?_ (by first | omega | (simp; omega) | simp) | refine Below.setCell ?_ (by first | omega | (simp; omega) | simp) _ | refine Below.alloc ?_ (by first | omega | (simp; omega) | simp) _ | refine Below.drew ?_ | refine below_drewN ?_ _ | refine Below.step (by assumption) (by first | omega | (simp; omega) | simp) ?_)))) hp hb ?_ ?_ ?_).mono ?_
      · first | exact cellN | exact cellN1 | exact cellN2
      · intro e; have := (ownG_block HN0.out _ e).2; first | omega | (simp at this; omega)
      · first | omega | (simp; done) | (simp; omega)
      rintro e u1 ⟨A1, c1, rfl, a1⟩
      have G1 : W0.grownBy u1 (Value.slice nA x.ns.length nC).ownBlock := Lib.grownBy_trans (Lib.grownBy_below (World.grownBy.refl W0 _) (by (repeat (first | exact Below.refl _ _ | exact Hbl.out | refine Below.ext ?_ (by first | omega | (simp; omega) | simp) | refine Below.setCell ?_ (by first | omega | (simp; omega) | simp) _ | refine Below.alloc ?_ (by first | omega | (simp; omega) | simp) _ | refine Below.drew ?_ | refine below_drewN ?_ _ | refine Below.step (by assumption) (by first | omega | (simp; omega) | simp) ?_)))) a1.2.1
      have k5 := G1.cell (a := ⟨g, o + 5, none⟩) h5 (fun e => hgN e.symm)
      have k6 := G1.cell (a := ⟨g, o + 6, none⟩) h6 (fun e => hgN e.symm)
      have q5 := (World.frozen?_of_block (a := ⟨g, o + 5, none⟩) (G1.block g hg (fun e => hgN e.symm))).trans f5
      have q6 := (World.frozen?_of_block (a := ⟨g, o + 6, none⟩) (G1.block g hg (fun e => hgN e.symm))).trans f6
      have m1 : OwnG EI 3 B u1 (.slice kA x.ks.length kC) x.ks := ownG_kept HK0.out G1 (ownG_type HK0.out HN0.out (by decide))
      have N1 : NewIn W0 (Value.slice nA x.ns.length nC).ownBlock (.slice A1 (x.ns.length + 1) c1) := a1.2.2.imp id (fun e => ⟨_, e, by first | omega | (simp; omega) | simp⟩)
      have o1 := a1.1
      have b1 := a1.2.1.block
      have z1 := G1.size
      have hg1 : g < u1.heap.size := Nat.lt_of_lt_of_le hg z1
      have G1' := Lib.hid G1
      have N1' := Lib.hid N1
      have O1 := Lib.hid o1
      have M1 := Lib.hid m1
      have BL1 := Lib.hid b1
      clear a1 G1 N1 o1 m1 b1
      refine hK.out _ _ ?_ (fun hHeld => ?_)
      · (try dsimp only)
        first | exact ⟨by assumption, by assumption⟩ | (go_simp; done) | (constructor <;> (first | assumption | (go_simp; done)))
      clear hK K
      try simp only [Act.put, List.getElem_toArray, List.getElem_cons_succ, List.getElem_cons_zero, List.setIfInBounds_toArray, List.set_cons_zero, List.set_cons_succ]
      refine wpAnyZ_ready (rs := [17]) (by kernel_rfl) (by simp) ?_
      refine AllReadyZ.keep rfl (fun K hK => ?_) (AllReadyZ.nil)
      go_simp
      go_at_call 104
      refine (insK_of kA kC x.ks p z _ 3 _ B (by first | exact M1.out | exact ownG_alloc M1.out _) hpk hb2 ?_ ?_ ?_).mono ?_
      · first | exact cellN | (refine (BL1.out _ ?_ ?_).trans ?_; (focus (simp; try omega)); (focus (intro e; have := (ownG_block HN0.out _ e.symm).2; first | omega | (simp at this; omega))); (focus (first | exact cellN | exact cellN1 | exact cellN2)))
      · intro e; have := (ownG_block HK0.out _ e).2; first | omega | (simp at this; omega)
      · first | omega | (simp; done) | (simp; omega)
      rintro e u2 ⟨A2, c2, rfl, a2⟩
      have G2 : u1.grownBy u2 (Value.slice kA x.ks.length kC).ownBlock := Lib.grownBy_trans (Lib.grownBy_below (World.grownBy.refl u1 _) (by first | exact Below.refl _ _ | exact Below.alloc (Below.refl _ _) (Nat.le_refl _) _)) a2.2.1
      have y5 := G2.cell (a := ⟨g, o + 5, none⟩) k5 (fun e => hgK e.symm)
      have y6 := G2.cell (a := ⟨g, o + 6, none⟩) k6 (fun e => hgK e.symm)
      have r5 := (World.frozen?_of_block (a := ⟨g, o + 5, none⟩) (G2.block g hg1 (fun e => hgK e.symm))).trans q5
      have r6 := (World.frozen?_of_block (a := ⟨g, o + 6, none⟩) (G2.block g hg1 (fun e => hgK e.symm))).trans q6
      have o2 : OwnG EL 9 B u2 (.slice A1 (x.ns.length + 1) c1) (x.ns.take p ++ s :: x.ns.drop p) := ownG_kept O1.out G2 (ownG_type O1.out M1.out (by decide))
      have N2 : NewIn W0 (Value.slice kA x.ks.length kC).ownBlock (.slice A2 (x.ks.length + 1) c2) := a2.2.2.imp id (fun e => ⟨_, e, by first | omega | (simp; omega)⟩)
      have O2 := Lib.hid o2
      have P2 := Lib.hid a2.1
      have G2' := Lib.hid G2
      have N2' := Lib.hid N2
      clear a2 o2 G2 N2 k5 k6 q5 q6
      refine hK.out _ _ ?_ (fun hHeld => ?_)
      · (try dsimp only)
        first | exact ⟨by assumption, by assumption⟩ | (go_simp; done) | (constructor <;> (first | assumption | (go_simp; done)))
      clear hK K
      try simp only [Act.put, List.getElem_toArray, List.getElem_cons_succ, List.getElem_cons_zero, List.setIfInBounds_toArray, List.set_cons_zero, List.set_cons_succ]
      refine zkP (i := 18) (v := ?_) rfl (by kernel_rfl) (by kernel_rfl) (fun _ _ _ h => h) rfl ?_ (by assumption) ?_; rotate_left; (focus (intro w; go_simp; try with_reducible rfl))
      try simp only [Act.put, List.getElem_toArray, List.getElem_cons_succ, List.getElem_cons_zero, List.setIfInBounds_toArray, List.set_cons_zero, List.set_cons_succ]
      refine zkP (i := 19) (v := ?_) rfl (by kernel_rfl) (by kernel_rfl) (fun _ _ _ h => h) rfl ?_ (by assumption) ?_; rotate_left; (focus (intro w; go_simp; try with_reducible rfl))
      try simp only [Act.put, List.getElem_toArray, List.getElem_cons_succ, List.getElem_cons_zero, List.setIfInBounds_toArray, List.set_cons_zero, List.set_cons_succ]
      refine wpAnyZ_ready (rs := [20]) (by kernel_rfl) (by simp) ?_
      refine AllReadyZ.last rfl (by kernel_rfl) (fun K hK => ?_) (AllReadyZ.nil)
      go_simp
      refine hK.out _ _ ?_
      clear hK K
      try simp only [Act.put, List.getElem_toArray, List.getElem_cons_succ, List.getElem_cons_zero, List.setIfInBounds_toArray, List.set_cons_zero, List.set_cons_succ]
      refine wpAnyZ_ready (rs := [21]) (by kernel_rfl) (by simp) ?_
      refine AllReadyZ.last rfl (by kernel_rfl) (fun K hK => ?_) (AllReadyZ.nil)
      go_simp
      refine hK.out _ _ ?_
      clear hK K
      try simp only [Act.put, List.getElem_toArray, List.getElem_cons_succ, List.getElem_cons_zero, List.setIfInBounds_toArray, List.set_cons_zero, List.set_cons_succ]
      refine wpAnyZ_ready (rs := [22]) (by kernel_rfl) (by simp) ?_
      refine AllReadyZ.last rfl (by kernel_rfl) (fun K hK => ?_) (AllReadyZ.nil)
      go_simp
      refine hK.out _ _ ?_
      clear hK K
      try simp only [Act.put, List.getElem_toArray, List.getElem_cons_succ, List.getElem_cons_zero, List.setIfInBounds_toArray, List.set_cons_zero, List.set_cons_succ]
      refine wpAnyZ_ready (rs := [23]) (by kernel_rfl) (by simp) ?_
      refine AllReadyZ.last rfl (by kernel_rfl) (fun K hK => ?_) (AllReadyZ.nil)
      go_simp
      refine hK.out _ _ ?_
      clear hK K
      try simp only [Act.put, List.getElem_toArray, List.getElem_cons_succ, List.getElem_cons_zero, List.setIfInBounds_toArray, List.set_cons_zero, List.set_cons_succ]
      refine wpAnyZ_done (by kernel_rfl) ?_ _
      go_wp2
      refine bodyPost_end (v := .tuple #[]) ?_ rfl ⟨rfl, u1, u2, A1, c1, A2, c2, Lib.grownBy_trans (G0.out _) G1'.out, G2'.out, ?_, ?_, ?_, ?_, rfl⟩
      · first | rfl | (simp [results, Tryz.results68, go_sem]; done)
      · have := O2.out; rw [Hpp.out] at this; exact this
      · have := P2.out; rw [Hpp.out] at this; exact this
      · exact N1'.out.imp id (fun ⟨j, e, h⟩ => ⟨j, e, by have := E0.out; omega⟩)
      · exact N2'.out.imp id (fun ⟨j, e, h⟩ => ⟨j, e, by have := E0.out; omega⟩)
  ·
    go_simp
    refine hK.out _ _ ?_ (fun hHeld => ?_)
    · (try dsimp only)
      first | exact ⟨by assumption, by assumption⟩ | (go_simp; done) | (constructor <;> (first | assumption | (go_simp; done)))
    clear hK K
    try simp only [Act.put, List.getElem_toArray, List.getElem_cons_succ, List.getElem_cons_zero, List.setIfInBounds_toArray, List.set_cons_zero, List.set_cons_succ]
    refine wpAnyZ_ready (rs := [8]) (by kernel_rfl) (by simp) ?_
    refine AllReadyZ.keep rfl (fun K hK => ?_) (AllReadyZ.nil)
    go_simp
    refine hK.out _ _ ?_ (fun hHeld => ?_)
    · (try dsimp only)
      first | exact ⟨by assumption, by assumption⟩ | (go_simp; done) | (constructor <;> (first | assumption | (go_simp; done)))
    clear hK K
    try simp only [Act.put, List.getElem_toArray, List.getElem_cons_succ, List.getElem_cons_zero, List.setIfInBounds_toArray, List.set_cons_zero, List.set_cons_succ]
    refine wpAnyZ_ready (rs := [9]) (by kernel_rfl) (by simp) ?_
    refine AllReadyZ.keep rfl (fun K hK => ?_) (AllReadyZ.nil)
    go_simp
    go_at_call 103
    refine (insN_of nA nC x.ns p s _ 9 _ B (ownG_below HN0.out (by (repeat (first | exact Below.refl _ _ | exact Hbl.out | refine Below.ext ?_ (by first | omega | (simp; omega) | simp) | refine Below.setCell ?_ (by first | omega | (simp; omega) | simp) _ | refine Below.alloc ?_ (by first | omega | (simp; omega) | simp) _ | refine Below.drew ?_ | refine below_drewN ?_ _ | refine Below.step (by assumption) (by first | omega | (simp; omega) | simp) ?_)))) hp hb ?_ ?_ ?_).mono ?_
    · first | exact cellN | exact cellN1 | exact cellN2
    · intro e; have := (ownG_block HN0.out _ e).2; first | omega | (simp at this; omega)
    · first | omega | (simp; done) | (simp; omega)
    rintro e u1 ⟨A1, c1, rfl, a1⟩
    have G1 : W0.grownBy u1 (Value.slice nA x.ns.length nC).ownBlock := Lib.grownBy_trans (Lib.grownBy_below (World.grownBy.refl W0 _) (by (repeat (first | exact Below.refl _ _ | exact Hbl.out | refine Below.ext ?_ (by first | omega | (simp; omega) | simp) | refine Below.setCell ?_ (by first | omega | (simp; omega) | simp) _ | refine Below.alloc ?_ (by first | omega | (simp; omega) | simp) _ | refine Below.drew ?_ | refine below_drewN ?_ _ | refine Below.step (by assumption) (by first | omega | (simp; omega) | simp) ?_)))) a1.2.1
    have k5 := G1.cell (a := ⟨g, o + 5, none⟩) h5 (fun e => hgN e.symm)
    have k6 := G1.cell (a := ⟨g, o + 6, none⟩) h6 (fun e => hgN e.symm)
    have q5 := (World.frozen?_of_block (a := ⟨g, o + 5, none⟩) (G1.block g hg (fun e => hgN e.symm))).trans f5
    have q6 := (World.frozen?_of_block (a := ⟨g, o + 6, none⟩) (G1.block g hg (fun e => hgN e.symm))).trans f6
    have m1 : OwnG EI 3 B u1 (.slice kA x.ks.length kC) x.ks := ownG_kept HK0.out G1 (ownG_type HK0.out HN0.out (by decide))
    have N1 : NewIn W0 (Value.slice nA x.ns.length nC).ownBlock (.slice A1 (x.ns.length + 1) c1) := a1.2.2.imp id (fun e => ⟨_, e, by first | omega | (simp; omega) | simp⟩)
    have o1 := a1.1
    have b1 := a1.2.1.block
    have z1 := G1.size
    have hg1 : g < u1.heap.size := Nat.lt_of_lt_of_le hg z1
    have G1' := Lib.hid G1
    have N1' := Lib.hid N1
    have O1 := Lib.hid o1
    have M1 := Lib.hid m1
    have BL1 := Lib.hid b1
    clear a1 G1 N1 o1 m1 b1
    refine hK.out _ _ ?_ (fun hHeld => ?_)
    · (try dsimp only)
      first | exact ⟨by assumption, by assumption⟩ | (go_simp; done) | (constructor <;> (first | assumption | (go_simp; done)))
    clear hK K
    try simp only [Act.put, List.getElem_toArray, List.getElem_cons_succ, List.getElem_cons_zero, List.setIfInBounds_toArray, List.set_cons_zero, List.set_cons_succ]
    refine wpAnyZ_ready (rs := [17]) (by kernel_rfl) (by simp) ?_
    refine AllReadyZ.keep rfl (fun K hK => ?_) (AllReadyZ.nil)
    go_simp
    go_at_call 104
    refine (insK_of kA kC x.ks p z _ 3 _ B (by first | exact M1.out | exact ownG_alloc M1.out _) hpk hb2 ?_ ?_ ?_).mono ?_
    · first | exact cellN | (refine (BL1.out _ ?_ ?_).trans ?_; (focus (simp; try omega)); (focus (intro e; have := (ownG_block HN0.out _ e.symm).2; first | omega | (simp at this; omega))); (focus (first | exact cellN | exact cellN1 | exact cellN2)))
    · intro e; have := (ownG_block HK0.out _ e).2; first | omega | (simp at this; omega)
    · first | omega | (simp; done) | (simp; omega)
    rintro e u2 ⟨A2, c2, rfl, a2⟩
    have G2 : u1.grownBy u2 (Value.slice kA x.ks.length kC).ownBlock := Lib.grownBy_trans (Lib.grownBy_below (World.grownBy.refl u1 _) (by first | exact Below.refl _ _ | exact Below.alloc (Below.refl _ _) (Nat.le_refl _) _)) a2.2.1
    have y5 := G2.cell (a := ⟨g, o + 5, none⟩) k5 (fun e => hgK e.symm)
    have y6 := G2.cell (a := ⟨g, o + 6, none⟩) k6 (fun e => hgK e.symm)
    have r5 := (World.frozen?_of_block (a := ⟨g, o + 5, none⟩) (G2.block g hg1 (fun e => hgK e.symm))).trans q5
    have r6 := (World.frozen?_of_block (a := ⟨g, o + 6, none⟩) (G2.block g hg1 (fun e => hgK e.symm))).trans q6
    have o2 : OwnG EL 9 B u2 (.slice A1 (x.ns.length + 1) c1) (x.ns.take p ++ s :: x.ns.drop p) := ownG_kept O1.out G2 (ownG_type O1.out M1.out (by decide))
    have N2 : NewIn W0 (Value.slice kA x.ks.length kC).ownBlock (.slice A2 (x.ks.length + 1) c2) := a2.2.2.imp id (fun e => ⟨_, e, by first | omega | (simp; omega)⟩)
    have O2 := Lib.hid o2
    have P2 := Lib.hid a2.1
    have G2' := Lib.hid G2
    have N2' := Lib.hid N2
    clear a2 o2 G2 N2 k5 k6 q5 q6
    refine hK.out _ _ ?_ (fun hHeld => ?_)
    · (try dsimp only)
      first | exact ⟨by assumption, by assumption⟩ | (go_simp; done) | (constructor <;> (first | assumption | (go_simp; done)))
    clear hK K
    try simp only [Act.put, List.getElem_toArray, List.getElem_cons_succ, List.getElem_cons_zero, List.setIfInBounds_toArray, List.set_cons_zero, List.set_cons_succ]
    refine zkP (i := 18) (v := ?_) rfl (by kernel_rfl) (by kernel_rfl) (fun _ _ _ h => h) rfl ?_ (by assumption) ?_; rotate_left; (focus (intro w; go_simp; try with_reducible rfl))
    try simp only [Act.put, List.getElem_toArray, List.getElem_cons_succ, List.getElem_cons_zero, List.setIfInBounds_toArray, List.set_cons_zero, List.set_cons_succ]
    refine zkP (i := 19) (v := ?_) rfl (by kernel_rfl) (by kernel_rfl) (fun _ _ _ h => h) rfl ?_ (by assumption) ?_; rotate_left; (focus (intro w; go_simp; try with_reducible rfl))
    try simp only [Act.put, List.getElem_toArray, List.getElem_cons_succ, List.getElem_cons_zero, List.setIfInBounds_toArray, List.set_cons_zero, List.set_cons_succ]
    refine wpAnyZ_ready (rs := [20]) (by kernel_rfl) (by simp) ?_
    refine AllReadyZ.last rfl (by kernel_rfl) (fun K hK => ?_) (AllReadyZ.nil)
    go_simp
    refine hK.out _ _ ?_
    clear hK K
    try simp only [Act.put, List.getElem_toArray, List.getElem_cons_succ, List.getElem_cons_zero, List.setIfInBounds_toArray, List.set_cons_zero, List.set_cons_succ]
    refine wpAnyZ_ready (rs := [21]) (by kernel_rfl) (by simp) ?_
    refine AllReadyZ.last rfl (by kernel_rfl) (fun K hK => ?_) (AllReadyZ.nil)
    go_simp
    refine hK.out _ _ ?_
    clear hK K
    try simp only [Act.put, List.getElem_toArray, List.getElem_cons_succ, List.getElem_cons_zero, List.setIfInBounds_toArray, List.set_cons_zero, List.set_cons_succ]
    refine wpAnyZ_ready (rs := [22]) (by kernel_rfl) (by simp) ?_
    refine AllReadyZ.last rfl (by kernel_rfl) (fun K hK => ?_) (AllReadyZ.nil)
    go_simp
    refine hK.out _ _ ?_
    clear hK K
    try simp only [Act.put, List.getElem_toArray, List.getElem_cons_succ, List.getElem_cons_zero, List.setIfInBounds_toArray, List.set_cons_zero, List.set_cons_succ]
    refine wpAnyZ_ready (rs := [23]) (by kernel_rfl) (by simp) ?_
    refine AllReadyZ.last rfl (by kernel_rfl) (fun K hK => ?_) (AllReadyZ.nil)
    go_simp
    refine hK.out _ _ ?_
    clear hK K
    try simp only [Act.put, List.getElem_toArray, List.getElem_cons_succ, List.getElem_cons_zero, List.setIfInBounds_toArray, List.set_cons_zero, List.set_cons_succ]
    refine wpAnyZ_done (by kernel_rfl) ?_ _
    go_wp2
    refine bodyPost_end (v := .tuple #[]) ?_ rfl ⟨rfl, u1, u2, A1, c1, A2, c2, Lib.grownBy_trans (G0.out _) G1'.out, G2'.out, ?_, ?_, ?_, ?_, rfl⟩
    · first | rfl | (simp [results, Tryz.results68, go_sem]; done)
    · have := O2.out; rw [Hpp.out] at this; exact this
    · have := P2.out; rw [Hpp.out] at this; exact this
    · exact N1'.out.imp id (fun ⟨j, e, h⟩ => ⟨j, e, by have := E0.out; omega⟩)
    · exact N2'.out.imp id (fun ⟨j, e, h⟩ => ⟨j, e, by have := E0.out; omega⟩)
end Go.Proofs.YtkennmpbmbacpaaGreatDoor
