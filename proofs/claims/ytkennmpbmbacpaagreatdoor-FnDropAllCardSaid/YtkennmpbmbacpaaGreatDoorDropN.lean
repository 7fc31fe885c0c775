/- The package's dropName. -/
import Derived.Test.YtkennmpbmbacpaaGreatDoorDelT
import Derived.Test.YtkennmpbmbacpaaGreatDoorCleanP
import Derived.Test.YtkennmpbmbacpaaGreatDoorMH
set_option linter.unusedSimpArgs false
set_option linter.unusedVariables false
set_option linter.unusedSectionVars false
namespace Go.Proofs.YtkennmpbmbacpaaGreatDoor
open Go.RowKit

set_option maxRecDepth 100000 in
set_option maxHeartbeats 1000000 in
theorem dropNameI_of (g cap m k B : Nat) (cs : List Cn) (t : List Nd) (sp : List UInt8) (w : World) (h : TreeC B w (.slice (some ⟨g, 0, none⟩) t.length cap) cs t) (hv : treeB t = true) (hm : m < t.length) (hsm : sp ∈ (kth t m).ns) (hk : kidF (kth t m) sp = (k : Int)) (hkl : k < t.length) (hB : B ≤ w.heap.size) (hkz : (kidsOf t).length ≤ 1000000) :
    Calls Tryz.prog 40 #[.slice (some ⟨g, 0, none⟩) t.length cap, .int .i64 m, .string (mk sp)] w fun e w' => ∃ v', e = .returned v' ∧ TreeO B w' v' (dropT t m sp k) ∧ Below B w w' := by
  have hcap := (TreeO.r ⟨_, h⟩).caps
  have hls := head_ks (tree_node hv hm)
  have hasc := asc_of (tree_node hv hm)
  have hfew := (few_of hv hkz m hm).1
  obtain ⟨hl1, hl2⟩ := inB_iffL.1 (tree_all hv).1
  have hlk := take_links hv hm hsm
  have hm' : (m : Int) < (t.length : Int) := by omega
  have hkl' : (k : Int) < (t.length : Int) := by omega
  have HSe := Lib.hid (fun nA nC w h => searchI_of nA nC (kth t m) sp w h hasc hfew)
  obtain ⟨p, hpp⟩ : ∃ p, p = putAt (kth t m) sp := ⟨_, rfl⟩
  have hpt := put_there hasc hsm
  have hkp := kid_at hasc hsm
  rw [← hpp] at hpt hkp
  rw [hk] at hkp
  have hp : p < (kth t m).ns.length := hpt.1
  have hpk : p < (kth t m).ks.length := by omega
  rw [← hpp, decide_eq_true hpt] at HSe
  have hkn : (kidsOf (takeT t m sp)).length ≤ 1000000 := by
    have h1 := kidsLen_set (delAt (kth t m) (putAt (kth t m) sp)) hm
    rw [del_lenK (by rw [← hpp]; omega)] at h1
    unfold takeT
    omega
  have HkR := Lib.hid (fun i (hi : i < t.length) j hj => (node_kids (take_nodes hv hm hsm hi)).2 j hj)
  have Hkid := Lib.hid hkp
  have Hpp := Lib.hid hpp
  have Hls := Lib.hid hls
  have Has := Lib.hid hasc
  have Hsm := Lib.hid hsm
  have Hv := Lib.hid hv
  have Hlk := Lib.hid hlk
  have HT1 := Lib.hid h
  have zp : IntKind.i64.wrap ((p : Int) + 1) = (p : Int) + 1 := IntWalk.i64_in _ (by omega)
  have zk : IntKind.i64.wrap ((k : Int) + 1) = (k : Int) + 1 := IntWalk.i64_in _ (by omega)
  obtain ⟨g', c1, e, -, -, -, -, hS0, -, -, -, -, -, y5, y6, -⟩ := h.at_ hm
  cases e
  have HS0 := Lib.hid hS0.ns
  clear hpt hkp hpp hls hasc hsm hv hlk h hS0 hk
  go_enter Tryz.func40, Tryz.ntmps40
  go_wp2_with fail
  refine (HSe.out _ _ _ HS0.out).mono ?_
  rintro e W ⟨rfl, q, hW⟩
  have b0 : Below B w W := by rw [hW]; exact below_drewN (Below.refl _ _) _
  have hT0 : TreeC B W (.slice (some ⟨g, 0, none⟩) t.length cap) cs t := HT1.out.below (by rw [hW]; exact below_drewN (Below.refl _ _) _)
  have hB' : B ≤ W.heap.size := by rw [hW]; exact hB
  have B0 := Lib.hid b0
  have HT := Lib.hid hT0
  clear hW b0 hT0 hB HT1 y5 y6 HS0 HSe
  have hB := hB'
  clear hB'
  obtain ⟨g', c0, e, hgB, hgW, hcm, hnd, hNS, -, -, -, -, -, z5, z6, zf⟩ := HT.out.at_ hm
  cases e
  have f5 := zf (m * 7 + 5)
  have f6 := zf (m * 7 + 6)
  have hn1 : c0.nL = (kth t m).ns.length := by obtain ⟨_, _, e⟩ := ownG_shape hnd.ns; injection e with _ e _
  have hk1 : c0.kL = (kth t m).ks.length := by obtain ⟨_, _, e⟩ := ownG_shape hnd.ks; injection e with _ e _
  have heN := Lib.hid (show nB c0 = (Value.slice c0.nA (kth t m).ns.length c0.nC).ownBlock by unfold nB; rw [hn1])
  have heK := Lib.hid (show kB c0 = (Value.slice c0.kA (kth t m).ks.length c0.kC).ownBlock by unfold kB; rw [hk1])
  have oN := hnd.ns
  have oK := hnd.ks
  rw [hn1] at oN
  rw [hk1] at oK
  have hgN := sep_ne (ownG_type oN HT.out.row (by decide)) (g := g) rfl
  have hgK := sep_ne (ownG_type oK HT.out.row (by decide)) (g := g) rfl
  have hnz := hnd.nz
  have HoN := Lib.hid oN
  have HoK := Lib.hid oK
  have HNS := Lib.hid hNS
  clear hn1 hk1 oN oK hnd zf hNS
  obtain ⟨bk, ok, ek, hbk, qk⟩ := HNS.out.ks.at_ (nthK_at hpk)
  have ck : W.cell? ⟨bk, ok + p, none⟩ = some (.int .i64 k) := by have := qk 0 _ rfl; rw [show EI.z = 1 from rfl, Nat.mul_one, Nat.add_zero] at this; rw [this, ← Hkid.out]
  have hpk' : (p : Int) < ((kth t m).ks.length : Int) := by omega
  have z6' := z6
  rw [ek] at z6'
  have Hz6 := Lib.hid z6
  have Hek := Lib.hid ek
  clear qk ek z6
  go_upto_region 3 with fail
  have z6 := Hz6.out
  clear z6' ck hpk' Hz6 Hek
  refine wp_region_Z (fun w' => w'.cell? ⟨g, m * 7 + 5, none⟩ = some (.slice c0.nA (kth t m).ns.length c0.nC) ∧ w'.cell? ⟨g, m * 7 + 6, none⟩ = some (.slice c0.kA (kth t m).ks.length c0.kC)) 24 (by kernel_rfl) ?_ (fun hHeld => ?_)
  · (try dsimp only)
    first | exact ⟨by assumption, by assumption⟩ | (go_simp; done) | (constructor <;> (first | assumption | (go_simp; done)))
  refine zkP (i := 0) (v := ?_) rfl (by kernel_rfl) (by kernel_rfl) (fun _ _ _ h => h) rfl ?_ (by assumption) ?_; rotate_left; (focus (intro w; go_simp; try with_reducible rfl))
  try simp only [Act.put, List.getElem_toArray, List.getElem_cons_succ, List.getElem_cons_zero, List.setIfInBounds_toArray, List.set_cons_zero, List.set_cons_succ]
  refine zkP (i := 1) (v := ?_) rfl (by kernel_rfl) (by kernel_rfl) (fun _ _ _ h => h) rfl ?_ (by assumption) ?_; rotate_left; (focus (intro w; go_simp; try with_reducible rfl))
  try simp only [Act.put, List.getElem_toArray, List.getElem_cons_succ, List.getElem_cons_zero, List.setIfInBounds_toArray, List.set_cons_zero, List.set_cons_succ]
  refine zkP (i := 2) (v := ?_) rfl (by kernel_rfl) (by kernel_rfl) (fun _ _ _ h => h) rfl ?_ (by assumption) ?_; rotate_left; (focus (intro w; go_simp; try with_reducible rfl))
  try simp only [Act.put, List.getElem_toArray, List.getElem_cons_succ, List.getElem_cons_zero, List.setIfInBounds_toArray, List.set_cons_zero, List.set_cons_succ]
  refine zkP (i := 3) (v := ?_) rfl (by kernel_rfl) (by kernel_rfl) (fun _ _ _ h => h) rfl ?_ (by assumption) ?_; rotate_left; (focus (intro w; go_simp; try with_reducible rfl))
  try simp only [Act.put, List.getElem_toArray, List.getElem_cons_succ, List.getElem_cons_zero, List.setIfInBounds_toArray, List.set_cons_zero, List.set_cons_succ]
  refine zkP (i := 4) (v := ?_) rfl (by kernel_rfl) (by kernel_rfl) (fun _ _ _ h => h) rfl ?_ (by assumption) ?_; rotate_left; (focus (intro w; go_simp; try with_reducible rfl))
  try simp only [Act.put, List.getElem_toArray, List.getElem_cons_succ, List.getElem_cons_zero, List.setIfInBounds_toArray, List.set_cons_zero, List.set_cons_succ]
  refine zkP (i := 5) (v := ?_) rfl (by kernel_rfl) (by kernel_rfl) (fun _ _ _ h => h) rfl ?_ (by assumption) ?_; rotate_left; (focus (intro w; go_simp; try with_reducible rfl))
  try simp only [Act.put, List.getElem_toArray, List.getElem_cons_succ, List.getElem_cons_zero, List.setIfInBounds_toArray, List.set_cons_zero, List.set_cons_succ]
  refine zkP (i := 6) (v := ?_) rfl (by kernel_rfl) (by kernel_rfl) (fun _ _ _ h => h) rfl ?_ (by assumption) ?_; rotate_left; (focus (intro w; go_simp; try with_reducible rfl))
  try simp only [Act.put, List.getElem_toArray, List.getElem_cons_succ, List.getElem_cons_zero, List.setIfInBounds_toArray, List.set_cons_zero, List.set_cons_succ]
  refine zkP (i := 7) (v := ?_) rfl (by kernel_rfl) (by kernel_rfl) (fun _ _ _ h => h) rfl ?_ (by assumption) ?_; rotate_left; (focus (intro w; go_simp; try with_reducible rfl))
  try simp only [Act.put, List.getElem_toArray, List.getElem_cons_succ, List.getElem_cons_zero, List.setIfInBounds_toArray, List.set_cons_zero, List.set_cons_succ]
  refine zkL (i := 8) (v := ?_) rfl (by kernel_rfl) (by kernel_rfl) (fun _ _ _ h => h) (by kernel_rfl) ?_ (by assumption) ?_; rotate_left; (focus (intro w hSw; (try dsimp only at hSw); go_simp; try with_reducible rfl))
  try simp only [Act.put, List.getElem_toArray, List.getElem_cons_succ, List.getElem_cons_zero, List.setIfInBounds_toArray, List.set_cons_zero, List.set_cons_succ]
  refine zkP (i := 9) (v := ?_) rfl (by kernel_rfl) (by kernel_rfl) (fun _ _ _ h => h) rfl ?_ (by assumption) ?_; rotate_left; (focus (intro w; go_simp; try with_reducible rfl))
  try simp only [Act.put, List.getElem_toArray, List.getElem_cons_succ, List.getElem_cons_zero, List.setIfInBounds_toArray, List.set_cons_zero, List.set_cons_succ]
  refine zkP (i := 10) (v := ?_) rfl (by kernel_rfl) (by kernel_rfl) (fun _ _ _ h => h) rfl ?_ (by assumption) ?_; rotate_left; (focus (intro w; go_simp; try with_reducible rfl))
  try simp only [Act.put, List.getElem_toArray, List.getElem_cons_succ, List.getElem_cons_zero, List.setIfInBounds_toArray, List.set_cons_zero, List.set_cons_succ]
  refine zkP (i := 11) (v := ?_) rfl (by kernel_rfl) (by kernel_rfl) (fun _ _ _ h => h) rfl ?_ (by assumption) ?_; rotate_left; (focus (intro w; go_simp; try with_reducible rfl))
  try simp only [Act.put, List.getElem_toArray, List.getElem_cons_succ, List.getElem_cons_zero, List.setIfInBounds_toArray, List.set_cons_zero, List.set_cons_succ]
  refine zkP (i := 13) (v := ?_) rfl (by kernel_rfl) (by kernel_rfl) (fun _ _ _ h => h) rfl ?_ (by assumption) ?_; rotate_left; (focus (intro w; go_simp; try with_reducible rfl))
  try simp only [Act.put, List.getElem_toArray, List.getElem_cons_succ, List.getElem_cons_zero, List.setIfInBounds_toArray, List.set_cons_zero, List.set_cons_succ]
  refine zkP (i := 14) (v := ?_) rfl (by kernel_rfl) (by kernel_rfl) (fun _ _ _ h => h) rfl ?_ (by assumption) ?_; rotate_left; (focus (intro w; go_simp; try with_reducible rfl))
  try simp only [Act.put, List.getElem_toArray, List.getElem_cons_succ, List.getElem_cons_zero, List.setIfInBounds_toArray, List.set_cons_zero, List.set_cons_succ]
  refine zkP (i := 15) (v := ?_) rfl (by kernel_rfl) (by kernel_rfl) (fun _ _ _ h => h) rfl ?_ (by assumption) ?_; rotate_left; (focus (intro w; go_simp; try with_reducible rfl))
  try simp only [Act.put, List.getElem_toArray, List.getElem_cons_succ, List.getElem_cons_zero, List.setIfInBounds_toArray, List.set_cons_zero, List.set_cons_succ]
  refine zkP (i := 16) (v := ?_) rfl (by kernel_rfl) (by kernel_rfl) (fun _ _ _ h => h) rfl ?_ (by assumption) ?_; rotate_left; (focus (intro w; go_simp; try with_reducible rfl))
  try simp only [Act.put, List.getElem_toArray, List.getElem_cons_succ, List.getElem_cons_zero, List.setIfInBounds_toArray, List.set_cons_zero, List.set_cons_succ]
  refine zkL (i := 17) (v := ?_) rfl (by kernel_rfl) (by kernel_rfl) (fun _ _ _ h => h) (by kernel_rfl) ?_ (by assumption) ?_; rotate_left; (focus (intro w hSw; (try dsimp only at hSw); go_simp; try with_reducible rfl))
  try simp only [Act.put, List.getElem_toArray, List.getElem_cons_succ, List.getElem_cons_zero, List.setIfInBounds_toArray, List.set_cons_zero, List.set_cons_succ]
  refine zkP (i := 18) (v := ?_) rfl (by kernel_rfl) (by kernel_rfl) (fun _ _ _ h => h) rfl ?_ (by assumption) ?_; rotate_left; (focus (intro w; go_simp; try with_reducible rfl))
  try simp only [Act.put, List.getElem_toArray, List.getElem_cons_succ, List.getElem_cons_zero, List.setIfInBounds_toArray, List.set_cons_zero, List.set_cons_succ]
  refine zkP (i := 19) (v := ?_) rfl (by kernel_rfl) (by kernel_rfl) (fun _ _ _ h => h) rfl ?_ (by assumption) ?_; rotate_left; (focus (intro w; go_simp; try with_reducible rfl))
  try simp only [Act.put, List.getElem_toArray, List.getElem_cons_succ, List.getElem_cons_zero, List.setIfInBounds_toArray, List.set_cons_zero, List.set_cons_succ]
  refine zkP (i := 20) (v := ?_) rfl (by kernel_rfl) (by kernel_rfl) (fun _ _ _ h => h) rfl ?_ (by assumption) ?_; rotate_left; (focus (intro w; go_simp; try with_reducible rfl))
  try simp only [Act.put, List.getElem_toArray, List.getElem_cons_succ, List.getElem_cons_zero, List.setIfInBounds_toArray, List.set_cons_zero, List.set_cons_succ]
  refine wpAnyZ_ready (rs := [12]) (by kernel_rfl) (by simp) ?_
  refine AllReadyZ.keep rfl (fun K hK => ?_) (AllReadyZ.nil)
  go_simp
  go_at_call 85
  refine (delN_at c0.nA c0.nC (kth t m).ns p _ B (ownG_below HoN.out (by (repeat (first | exact Below.refl _ _ | exact Hbl.out | refine Below.ext ?_ (by first | omega | (simp; omega) | simp) | refine Below.setCell ?_ (by first | omega | (simp; omega) | simp) _ | refine Below.alloc ?_ (by first | omega | (simp; omega) | simp) _ | refine Below.drew ?_ | refine below_drewN ?_ _ | refine Below.step (by assumption) (by first | omega | (simp; omega) | simp) ?_)))) hp (by first | omega | (simp; omega))).mono ?_
  rintro e u1 ⟨rfl, a1⟩
  have G1 : W.grownBy u1 (Value.slice c0.nA (kth t m).ns.length c0.nC).ownBlock := Lib.grownBy_trans (Lib.grownBy_below (World.grownBy.refl W _) (by (repeat (first | exact Below.refl _ _ | exact Hbl.out | refine Below.ext ?_ (by first | omega | (simp; omega) | simp) | refine Below.setCell ?_ (by first | omega | (simp; omega) | simp) _ | refine Below.alloc ?_ (by first | omega | (simp; omega) | simp) _ | refine Below.drew ?_ | refine below_drewN ?_ _ | refine Below.step (by assumption) (by first | omega | (simp; omega) | simp) ?_)))) a1.2.1
  have k5 := G1.cell (a := ⟨g, m * 7 + 5, none⟩) z5 (fun e => hgN e.symm)
  have k6 := G1.cell (a := ⟨g, m * 7 + 6, none⟩) z6 (fun e => hgN e.symm)
  have q5 := (World.frozen?_of_block (a := ⟨g, m * 7 + 5, none⟩) (G1.block g hgW (fun e => hgN e.symm))).trans f5
  have q6 := (World.frozen?_of_block (a := ⟨g, m * 7 + 6, none⟩) (G1.block g hgW (fun e => hgN e.symm))).trans f6
  have m1 : OwnG EI 3 B u1 (.slice c0.kA (kth t m).ks.length c0.kC) (kth t m).ks := ownG_kept HoK.out G1 (ownG_type HoK.out HoN.out (by decide))
  have o1 := a1.1
  have hg1 : g < u1.heap.size := Nat.lt_of_lt_of_le hgW G1.size
  have hB1 : B ≤ u1.heap.size := Nat.le_trans hB G1.size
  have n1 : NewIn W (Value.slice c0.nA (kth t m).ns.length c0.nC).ownBlock (.slice c0.nA ((kth t m).ns.length - 1) c0.nC) := by
    rcases a1.2.2 with h | h
    · exact .inl h
    · exact .inr ⟨_, h, (by first | exact Nat.le_refl _ | (simp; done))⟩
  have G1' := Lib.hid G1
  have O1 := Lib.hid o1
  have M1 := Lib.hid m1
  have N1 := Lib.hid n1
  clear a1 G1 o1 m1 n1
  refine hK.out _ _ ?_ (fun hHeld => ?_)
  · (try dsimp only)
    first | exact ⟨by assumption, by assumption⟩ | (go_simp; done) | (constructor <;> (first | assumption | (go_simp; done)))
  clear hK K
  try simp only [Act.put, List.getElem_toArray, List.getElem_cons_succ, List.getElem_cons_zero, List.setIfInBounds_toArray, List.set_cons_zero, List.set_cons_succ]
  refine wpAnyZ_ready (rs := [21]) (by kernel_rfl) (by simp) ?_
  refine AllReadyZ.keep rfl (fun K hK => ?_) (AllReadyZ.nil)
  go_simp
  go_at_call 86
  refine (delK_at c0.kA c0.kC (kth t m).ks p _ B M1.out hpk hB1).mono ?_
  rintro e u2 ⟨rfl, a2⟩
  have G2 : u1.grownBy u2 (Value.slice c0.kA (kth t m).ks.length c0.kC).ownBlock := a2.2.1
  have y5 := G2.cell (a := ⟨g, m * 7 + 5, none⟩) k5 (fun e => hgK e.symm)
  have y6 := G2.cell (a := ⟨g, m * 7 + 6, none⟩) k6 (fun e => hgK e.symm)
  have r5 := (World.frozen?_of_block (a := ⟨g, m * 7 + 5, none⟩) (G2.block g hg1 (fun e => hgK e.symm))).trans q5
  have r6 := (World.frozen?_of_block (a := ⟨g, m * 7 + 6, none⟩) (G2.block g hg1 (fun e => hgK e.symm))).trans q6
  have o2 : OwnG EL 9 B u2 (.slice c0.nA ((kth t m).ns.length - 1) c0.nC) ((kth t m).ns.eraseIdx p) := ownG_kept O1.out G2 (ownG_type O1.out M1.out (by decide))
  have n2 : NewIn W (Value.slice c0.kA (kth t m).ks.length c0.kC).ownBlock (.slice c0.kA ((kth t m).ks.length - 1) c0.kC) := by
    rcases a2.2.2 with h | h
    · exact .inl h
    · exact .inr ⟨_, h, G1'.out.size⟩
  have O2 := Lib.hid o2
  have P2 := Lib.hid a2.1
  have G2' := Lib.hid G2
  have N2 := Lib.hid n2
  clear a2 o2 G2 n2 k5 k6 q5 q6
  refine hK.out _ _ ?_ (fun hHeld => ?_)
  · (try dsimp only)
    first | exact ⟨by assumption, by assumption⟩ | (go_simp; done) | (constructor <;> (first | assumption | (go_simp; done)))
  clear hK K
  try simp only [Act.put, List.getElem_toArray, List.getElem_cons_succ, List.getElem_cons_zero, List.setIfInBounds_toArray, List.set_cons_zero, List.set_cons_succ]
  refine zkP (i := 22) (v := ?_) rfl (by kernel_rfl) (by kernel_rfl) (fun _ _ _ h => h) rfl ?_ (by assumption) ?_; rotate_left; (focus (intro w; go_simp; try with_reducible rfl))
  try simp only [Act.put, List.getElem_toArray, List.getElem_cons_succ, List.getElem_cons_zero, List.setIfInBounds_toArray, List.set_cons_zero, List.set_cons_succ]
  refine zkP (i := 23) (v := ?_) rfl (by kernel_rfl) (by kernel_rfl) (fun _ _ _ h => h) rfl ?_ (by assumption) ?_; rotate_left; (focus (intro w; go_simp; try with_reducible rfl))
  try simp only [Act.put, List.getElem_toArray, List.getElem_cons_succ, List.getElem_cons_zero, List.setIfInBounds_toArray, List.set_cons_zero, List.set_cons_succ]
  refine wpAnyZ_ready (rs := [24]) (by kernel_rfl) (by simp) ?_
  refine AllReadyZ.last rfl (by kernel_rfl) (fun K hK => ?_) (AllReadyZ.nil)
  go_simp
  refine hK.out _ _ ?_
  clear hK K
  try simp only [Act.put, List.getElem_toArray, List.getElem_cons_succ, List.getElem_cons_zero, List.setIfInBounds_toArray, List.set_cons_zero, List.set_cons_succ]
  refine wpAnyZ_ready (rs := [25]) (by kernel_rfl) (by simp) ?_
  refine AllReadyZ.last rfl (by kernel_rfl) (fun K hK => ?_) (AllReadyZ.nil)
  go_simp
  refine hK.out _ _ ?_
  clear hK K
  try simp only [Act.put, List.getElem_toArray, List.getElem_cons_succ, List.getElem_cons_zero, List.setIfInBounds_toArray, List.set_cons_zero, List.set_cons_succ]
  refine wpAnyZ_ready (rs := [26]) (by kernel_rfl) (by simp) ?_
  refine AllReadyZ.last rfl (by kernel_rfl) (fun K hK => ?_) (AllReadyZ.nil)
  go_simp
  refine hK.out _ _ ?_
  clear hK K
  try simp only [Act.put, List.getElem_toArray, List.getElem_cons_succ, List.getElem_cons_zero, List.setIfInBounds_toArray, List.set_cons_zero, List.set_cons_succ]
  refine wpAnyZ_ready (rs := [27]) (by kernel_rfl) (by simp) ?_
  refine AllReadyZ.last rfl (by kernel_rfl) (fun K hK => ?_) (AllReadyZ.nil)
  go_simp
  refine hK.out _ _ ?_
  clear hK K
  try simp only [Act.put, List.getElem_toArray, List.getElem_cons_succ, List.getElem_cons_zero, List.setIfInBounds_toArray, List.set_cons_zero, List.set_cons_succ]
  refine wpAnyZ_done (by kernel_rfl) ?_ _
  obtain ⟨cs7, hT7⟩ := HT.out.rows hm hcm O2.out P2.out (by rw [heN.out]; exact G1'.out) (by rw [heK.out]; exact G2'.out) (by rw [heN.out]; exact N1.out) (by rw [heK.out]; exact N2.out) (fun z hz => hnz z (List.mem_of_mem_eraseIdx hz))
  have b7 : Below B W ((u2.setCell ⟨g, m * 7 + 5, none⟩ (.slice c0.nA ((kth t m).ns.length - 1) c0.nC)).setCell ⟨g, m * 7 + 6, none⟩ (.slice c0.kA ((kth t m).ks.length - 1) c0.kC)) := Below.setCell (Below.setCell (Below.trans (Below.of_grown G1'.out hB (fun j hj => (ownG_block HoN.out j hj).1)) (Below.of_grown G2'.out hB1 (fun j hj => (ownG_block M1.out j hj).1))) hgB _) hgB _
  generalize (u2.setCell ⟨g, m * 7 + 5, none⟩ (.slice c0.nA ((kth t m).ns.length - 1) c0.nC)).setCell ⟨g, m * 7 + 6, none⟩ (.slice c0.kA ((kth t m).ks.length - 1) c0.kC) = W7 at hT7 b7 ⊢
  replace hT7 : TreeC B W7 _ cs7 (t.set m (delAt (kth t m) p)) := hT7
  rw [Hpp.out] at hT7
  replace hT7 : TreeC B W7 _ cs7 (takeT t m sp) := hT7
  have HT7 := Lib.hid hT7
  have E7 := Lib.hid b7
  clear hT7 b7 y5 y6 r5 r6 G1' G2' O1 O2 M1 P2 N1 N2 hg1 hB1
  have hsz7 := E7.out.size
  have hl7 : (takeT t m sp).length = t.length := take_len
  obtain ⟨T7, hT7e⟩ : ∃ T7, T7 = takeT t m sp := ⟨_, rfl⟩
  rw [← hT7e] at HT7 Hlk hkn hl7 HkR
  have HdT := Lib.hid (show dropT t m sp k = if 0 < lnk T7 k then T7 else cleanT T7 k by rw [hT7e]; rfl)
  have B7 := Lib.hid (Below.trans B0.out E7.out)
  clear hT7e z5 z6 f5 f6 B0 E7 HT HoN HoK HNS heN heK hnz hgN hgK Hkid Hpp Hls Has Hsm Hv hp hpk zp hfew
  have hB7 : B ≤ W7.heap.size := Nat.le_trans hB hsz7
  have Hl7 := Lib.hid hl7
  have Hxl := Lib.hid Hlk.out.1
  have Hxk := Lib.hid (Hlk.out.2 k hkl)
  have HLI := Lib.hid (linksI_of (.slice (some ⟨g, 0, none⟩) t.length cap) T7 W7 (TreeO.r ⟨_, HT7.out⟩) (by omega) hkn)
  clear hB hsz7 hm hm' hl7 Hlk hcm hkz
  go_wp2_with fail
  refine HLI.out.mono ?_
  rintro e w8 ⟨v8, rfl, o8, b8⟩
  obtain ⟨A8, c8, rfl⟩ := ownG_shape o8
  obtain ⟨b9, o9, rfl, hb9, q9⟩ := (ownG_sl o8).at_ Hxk.out
  have x9 : w8.cell? ⟨b9, o9 + k, none⟩ = some (.int .i64 (lnk T7 k)) := by have := q9 0 _ rfl; simpa [EI] using this
  rw [Hxl.out]
  have HT8 := Lib.hid (HT7.out.below b8)
  have B8 := Lib.hid (Below.trans B7.out (b8.mono hB7))
  have hB8 : B ≤ w8.heap.size := Nat.le_trans hB7 b8.size
  clear q9 o8 b8 HLI HT7 B7 hB7 Hxl Hxk
  by_cases h0 : 0 < lnk T7 k
  · rw [if_pos h0] at HdT
    go_wp2
    go_ret
    exact ⟨_, rfl, by rw [HdT.out]; exact ⟨_, HT8.out⟩, B8.out⟩
  · rw [if_neg h0] at HdT
    have hkT : k < T7.length := by rw [Hl7.out]; exact hkl
    obtain ⟨g', -, eg, -, hgw, -⟩ := HT8.out.at_ hkT
    cases eg
    have HD := Lib.hid (delC_of g t.length cap k B cs7 T7 w8 HT8.out hkT (by have := Hl7.out; omega) hgw hgB)
    clear hgw
    go_wp2_with fail
    refine HD.out.mono ?_
    rintro e w9 ⟨rfl, hT9, b9⟩
    have hEk : ∀ i, i < t.length - 1 → upI k i < t.length ∧ kth (T7.eraseIdx k) i = kth T7 (upI k i) := fun i hi => by
      refine ⟨by unfold upI; split <;> omega, ?_⟩
      unfold kth
      rw [List.getD_eq_getElem?_getD, List.getD_eq_getElem?_getD, List.getElem?_eraseIdx]
      unfold upI
      split <;> rfl
    have hEl : (T7.eraseIdx k).length = t.length - 1 := by rw [List.length_eraseIdx, if_pos hkT, Hl7.out]
    have hdT : dropT t m sp k = (T7.eraseIdx k).map (renN k) := HdT.out
    have hR : ∀ i j, i < t.length - 1 → j < (kth (T7.eraseIdx k) i).ks.length → 1 ≤ nthK (kth (T7.eraseIdx k) i) j ∧ nthK (kth (T7.eraseIdx k) i) j ≤ (t.length : Int) - 1 := fun i j hi hj => by
      rw [(hEk i hi).2] at hj ⊢
      exact HkR.out _ (hEk i hi).1 j hj
    generalize T7.eraseIdx k = E at hT9 hEl hdT hR
    generalize cs7.eraseIdx k = cs9 at hT9
    have hn16 : t.length - 1 ≤ 15 := by omega
    have hR2 : ∀ i j, i < t.length - 1 → j < (kth E i).ks.length → 1 ≤ nthK (kth E i) j ∧ nthK (kth E i) j ≤ 100 := fun i j hi hj => by have := hR i j hi hj; omega
    have hnc : t.length - 1 ≤ cap := by omega
    have B9 := Lib.hid (Below.trans B8.out b9)
    have hB9 : B ≤ w9.heap.size := by have h1 := hT9.row; have := (ownG_block h1 g rfl).2; omega
    have HT9 := Lib.hid hT9
    have HEl := Lib.hid hEl
    have HdE := Lib.hid hdT
    have HR2 := Lib.hid hR2
    clear x9 hb9 hEk hEl hdT hR hR2 hT9 b9 HD HT8 B8 hB8 HdT HkR Hl7 hkn hkT
    generalize t.length - 1 = n at hn16 hnc HT9 HEl HR2 ⊢
    have hk16 : k ≤ 16 := by omega
    go_wp2
    go_loopw [72] (fun i wr => ∃ (j : Nat) (T : List Nd), j ≤ n ∧ i = .int .i64 j ∧ RenTo E k j 0 T ∧ TreeC B wr (.slice (some ⟨g, 0, none⟩) n cap) cs9 T ∧ Below B w wr ∧ B ≤ wr.heap.size) (fun i _ => n - (intOf i).toNat)
    case atStart => exact ⟨0, E, Nat.zero_le _, rfl, RenTo.start E k, HT9.out, B9.out, hB9⟩
    case round =>
      obtain ⟨j, T, hj, rfl, hRT, hT, hB, hBw⟩ := hrel
      have HT := Lib.hid hT
      have HB := Lib.hid hB
      have HRT := Lib.hid hRT
      by_cases hlt : j < n
      · have hlt' : (j : Int) < (n : Int) := by omega
        have hjE : j < E.length := by rw [HEl.out]; exact hlt
        have zj : IntKind.i64.wrap ((j : Int) + 1) = (j : Int) + 1 := IntWalk.i64_in _ (by omega)
        obtain ⟨g', c, eg, -, hgw, hcc, hnd, -, q0, q1, q2, q3, q4, q5, q6, -⟩ := hT.at_ (show j < T.length by rw [hRT.len]; exact hjE)
        cases eg
        have hkb : ∀ gk, (Value.slice c.kA c.kL c.kC).ownBlock = some gk → gk < wr.heap.size := fun gk h => (ownG_block hnd.ks gk h).2
        have hLT : (kth T j).ks.length = (kth E j).ks.length := by rw [hRT.mid hjE, partN_zero]
        have hRj := HR2.out j
        have hcK := (ownG_sl hnd.ks).caps
        obtain ⟨Lk, hLk⟩ : ∃ Lk, Lk = (kth E j).ks.length := ⟨_, rfl⟩
        rw [hLT, ← hLk] at q6 hcK
        rw [← hLk] at hRj
        have HkB := Lib.hid hkb
        have HLk := Lib.hid hLk
        have HRj := Lib.hid hRj
        have hb7 : g < wr.heap.size := hgw
        clear hT hB hRT hnd hkb hLT hLk hRj HT9 B9 hB9
        obtain ⟨wo, rfl⟩ : ∃ wo, wo = wr := ⟨_, rfl⟩
        go_wp2
        go_loopw [79] (fun i wq => ∃ (q : Nat) (T' : List Nd), q ≤ Lk ∧ i = .int .i64 q ∧ RenTo E k j q T' ∧ TreeC B wq (.slice (some ⟨g, 0, none⟩) n cap) cs9 T' ∧ Below B w wq ∧ B ≤ wq.heap.size ∧ wo.heap.size < wq.heap.size ∧ wq.cell? ⟨wo.heap.size, 6, none⟩ = some (.slice c.kA Lk c.kC)) (fun i _ => Lk - (intOf i).toNat)
        case atStart => exact ⟨0, T, Nat.zero_le _, rfl, HRT.out, HT.out.below (Below.alloc (Below.refl _ _) (Nat.le_refl _) _), Below.alloc HB.out hBw _, by simp; omega, by simp, by go_simp⟩
        case round =>
          obtain ⟨q, T', hq, rfl, hRT, hT, hB, hBw2, hgb, hbox⟩ := hrel
          have HT2 := Lib.hid hT
          have HB2 := Lib.hid hB
          have HRT2 := Lib.hid hRT
          by_cases hql : q < Lk
          · have hql' : (q : Int) < (Lk : Int) := by omega
            have hqE : q < (kth E j).ks.length := by rw [← HLk.out]; exact hql
            have hqT : q < (kth T' j).ks.length := by rw [hRT.mid hjE, partN_len]; exact hqE
            obtain ⟨gk, ek, k1, k2, k3, k4, k5, k6, k7⟩ := hT.kidset (z := ren k (nthK (kth E j) q)) (show j < T'.length by rw [hRT.len]; exact hjE) hcc hqT
            have k8 := HkB.out gk k6
            rw [hRT.mid hjE, partN_at hqE] at k3
            have hz := HRj.out q hlt hql
            have hre : ren k (nthK (kth E j) q) = if (k : Int) < nthK (kth E j) q then nthK (kth E j) q - 1 else nthK (kth E j) q := rfl
            have zq : IntKind.i64.wrap ((q : Int) + 1) = (q : Int) + 1 := IntWalk.i64_in _ (by have := hcK; omega)
            rw [ek] at hbox
            have hneg : gk ≠ wo.heap.size := by omega
            have HK7 := Lib.hid k7
            have Hre := Lib.hid hre
            have hst := Lib.hid (hRT.store hjE hqE)
            have hsk := Lib.hid (fun h => hRT.skip hjE hqE h)
            clear hT hB hRT hre k5 k6 k7
            by_cases hkz : (k : Int) < nthK (kth E j) q
            · rw [if_pos hkz] at Hre
              rw [Hre.out] at hst HK7
              have zz : IntKind.i64.wrap (nthK (kth E j) q - 1) = nthK (kth E j) q - 1 := IntWalk.i64_in _ (by omega)
              clear hsk
              generalize nthK (kth E j) q = z at k3 hz hkz zz hst HK7 Hre
              generalize T'.set j _ = T2 at hst HK7
              go_wp2
              go_roundw
              case rel => exact ⟨q + 1, T2, hql, by go_num, hst.out, HK7.out, Below.setCell HB2.out k1 _, by simp; omega, by simp; omega, by rw [ek]; go_simp⟩
              case measure => simp [intOf]; omega
            · rw [if_neg hkz] at Hre
              have hsk2 := Lib.hid (hsk.out Hre.out)
              clear hst HK7 hsk
              generalize nthK (kth E j) q = z at k3 hz hkz
              go_wp2
              go_roundw
              case rel => exact ⟨q + 1, T', hql, by go_num, hsk2.out, HT2.out, HB2.out, hBw2, hgb, by rw [ek]; exact hbox⟩
              case measure => simp [intOf]; omega
          · obtain rfl : q = Lk := by omega
            clear hT hB hRT
            go_wp2
            go_roundw
            case rel => exact ⟨j + 1, T', hlt, by go_num, HRT2.out.next hjE HLk.out, HT2.out, HB2.out, hBw2⟩
            case measure => simp [intOf]; omega
      · obtain rfl : j = n := by omega
        clear hT hB hRT
        go_wp2
        go_ret
        exact ⟨_, rfl, by rw [HdE.out, ← HRT.out.end_ (Nat.le_of_eq HEl.out)]; exact ⟨_, HT.out⟩, HB.out⟩
end Go.Proofs.YtkennmpbmbacpaaGreatDoor
