/- What is drawn: a tree, a credential, a path and a text. -/
import Derived.Test.YthfneaaenlgegaaGreatDoorDrawTx
import Derived.Test.YthfneaaenlgegaaGreatDoorDrawF
set_option linter.unusedSimpArgs false
set_option linter.unusedVariables false
set_option linter.unusedSectionVars false
namespace Go.Proofs.YthfneaaenlgegaaGreatDoor
open Go.RowKit

theorem WK.startF {w W : World} {R B : Nat} {q a b c d : Int} {v : Value} {cs : List Cn} {t : List Nd} {T : TypeId} (h : DS w W R q) (hT : TreeC B W v cs t) (hlt : w.heap.size < W.heap.size) : WK w R W.heap.size w.heap.size B q v cs t [.int .i64 a, .int .i64 b, .int .i64 c, .int .i64 d] false (W.alloc (.cells #[.int .i64 a, .int .i64 b, .int .i64 c, .int .i64 d] T)) := by
  have hb : Below W.heap.size W (W.alloc (.cells #[.int .i64 a, .int .i64 b, .int .i64 c, .int .i64 d] T)) := Below.alloc (Below.refl _ _) (Nat.le_refl _) _
  refine ⟨fun _ => rd_below h.rd hb, hT.below hb, Below.step hb h.below.size h.below, fun i u hu => ?_, fun i u hu => ⟨.int .i64 0, (hb.cell (p := ⟨w.heap.size, i, none⟩) hlt).trans (h.cell i ?_), fun e => by cases e⟩, fun i => (hb.frozen (p := ⟨w.heap.size, i, none⟩) hlt).trans (h.froz i), by simp, by simp; omega⟩
  · rcases i with _ | _ | _ | _ | i
    · cases hu; go_simp
    · cases hu; go_simp
    · cases hu; go_simp
    · cases hu; go_simp
    · simp at hu
  · have := (List.getElem?_eq_some_iff.1 hu).1
    simpa using this
structure FW (w0 : World) (R C G B base : Nat) (q0 : Int) (VT VC VP : Value) (cs : List Cn) (t : List Nd) (xs : List Value) (L : Nat → Bool) (w : World) (u19 u20 u21 u22 u23 u24 u25 u26 u27 u28 u29 u30 u31 u2 u4 u5 : Value) : Prop where
  com : ∃ q, q0 ≤ q ∧ q ≤ q0 + b2n (L 8) ∧ WK w0 R C G B q VT cs t xs (L 14) w ∧ base ≤ w.heap.size ∧ (L 13 = true → L 8 = true) ∧ (L 14 = true → L 8 = true)
  cl : L 16 = true → ∀ k, k < 16 → L k = true
  f0 : (L 16 = false → L 0 = true → u19 = VT)
  f1 : (L 16 = false → L 1 = true → u20 = VC)
  f2 : (L 16 = false → L 2 = true → u21 = VP)
  f3 : (L 16 = false → L 3 = true → IsMk 41 base u22 w)
  f4 : (L 16 = false → L 4 = true → ∃ s : ByteArray, u23 = .string s ∧ s.size ≤ 41)
  f5 : (L 16 = false → L 5 = true → IsX4 base u24 w)
  f6 : (L 16 = false → L 6 = true → IsN6 base u25 w)
  f7 : (L 16 = false → L 7 = true → u26 = .pointer (some ⟨R, 0, none⟩))
  f8 : (L 16 = false → L 8 = true → ∃ v : Int, u27 = .int .i64 v ∧ 0 ≤ v ∧ v < 6)
  f9 : (L 16 = false → L 9 = true → IsNq base u28 w)
  f10 : (L 16 = false → L 10 = true → ∃ x : Int, u29 = .int .i64 x ∧ 0 ≤ x ∧ x < 4)
  f11 : (L 16 = false → L 11 = true → IsSq base u30 w)
  f12 : (L 16 = false → L 12 = true → ∃ s : ByteArray, u31 = .string s ∧ s.size ≤ 41)
  f13 : (L 13 = true → u2 = VT)
  f15 : (L 15 = true → u4 = VP)
  f16 : (L 16 = true → ∃ s : ByteArray, u5 = .string s ∧ s.size ≤ 41)
/-- A tree, a credential, a path and a text are drawn. -/
def GotFT (w : World) (e : Ending) (w' : World) : Prop := ∃ (v : Value) (t : List Nd) (a b c d : Int) (s x : ByteArray), e = .returned (.tuple #[v, .agg #[.int .i64 a, .int .i64 b, .int .i64 c, .int .i64 d], .string s, .string x]) ∧ TreeO w.heap.size w' v t ∧ t.length ≤ 20 ∧ (kidsOf t).length ≤ 16 ∧ s.size ≤ 54 ∧ x.size ≤ 41 ∧ Below w.heap.size w w'
set_option maxRecDepth 100000 in
set_option maxHeartbeats 20000000 in
theorem drawWF_any (a : Option Addr) (len cap : Nat) (zs : List Int) (w : World) (hrow : IsRow .u8 w a len cap zs) : Calls Tryz.prog 24 #[.slice a len cap] w (GotFT w) := by
  have hmk : ∀ w : World, (Instr.makeSlice 22 (.int .i64 41) (.int .i64 41)).run Tryz.prog w = .ok (.slice (some ⟨w.heap.size, 0, none⟩) 41 41) (w.alloc (.cells (zc 41) 5)) := fun _ => by kernel_rfl
  go_enter Tryz.func24, Tryz.ntmps24
  go_wp2_with (go_at_call 28; refine (open_any _ _ _ _ _ (IsRow.below hrow (by repeat (first | exact Below.refl _ _ | refine Below.alloc ?_ (by simp; try omega) _)))).mono ?_; rintro e w' ⟨A, le, ca, rfl, rfl, zs', hby⟩; (try simp only [World.size_alloc] at hby))
  have D0 := DS.start hby
  obtain ⟨W0, hW0⟩ : ∃ W0, W0 = ((w.alloc (.cells #[.int .i64 0, .int .i64 0, .int .i64 0, .int .i64 0] 25)).alloc (.cells #[.slice A le ca, .int .i64 0] 84)) := ⟨_, rfl⟩
  have hz0 : W0.heap.size = w.heap.size + 2 := by rw [hW0]; simp
  rw [← hW0] at D0 ⊢
  obtain ⟨R, hR⟩ : ∃ R, R = w.heap.size + 1 := ⟨_, rfl⟩
  rw [← hR] at D0
  simp only [← hR]
  have hRz : R < W0.heap.size := by omega
  have hGz : w.heap.size < W0.heap.size := by omega
  clear hW0 hR hby hrow hz0
  refine (l20Tree_any R 0 14 W0 D0.rd (by decide) (by decide) (by decide)).mono ?_
  rintro e W1 ⟨v, cs, t, q1, rfl, hT, h1, h2, h3, k0, k1, hRB⟩
  have D1 := D0.step k0 hRB
  have hr1 := D1.rd
  have HT1 := Lib.hid hT
  have HD1 := Lib.hid D1
  have hlt := D0.lt
  obtain ⟨A1, cap1, rfl⟩ := (TreeO.r ⟨_, hT⟩).shape
  clear D0 D1 hT hRB h3
  go_wp2_with fail
  refine (l20Cred_any R q1 14 W1 hr1 (by omega) (by decide) (by decide)).mono ?_
  rintro e W2 ⟨_, q2, d2, os2, rfl, k2, k3, ⟨a0, b0, c0, d0, rfl⟩, hW2⟩
  have D2 := HD1.out.pick (d := d2) (os := os2) (q' := q2) (by omega)
  have T2 := HT1.out.pick (d := d2) (os := os2) (i := 1) (u := .int .i64 q2) hRz
  rw [← hW2] at D2 T2
  have hr2 := D2.rd
  have hz2 : w.heap.size < W2.heap.size := by have := D2.rd.lt; omega
  have K2 := Lib.hid (WK.startF (a := a0) (b := b0) (c := c0) (d := d0) (T := 25) D2 T2 hz2)
  have hRz2 : R < W2.heap.size := D2.rd.lt
  have HR2 := Lib.hid (TreeO.r ⟨_, T2⟩)
  have HW := Lib.hid (fun w hr h => l20Where_any R q2 (.slice A1 t.length cap1) t w hr (by omega) h (by omega) h2)
  clear hW2 D2 T2 HD1 HT1 hr1
  go_wp2_with fail
  refine (HW.out _ ?_ (HR2.out.below (by (repeat (first | exact Below.refl _ _ | exact Hbl.out | refine Below.ext ?_ (by first | omega | (simp; omega) | simp) | refine Below.setCell ?_ (by first | omega | (simp; omega) | simp) _ | refine Below.alloc ?_ (by first | omega | (simp; omega) | simp) _ | refine Below.drew ?_ | refine below_drewN ?_ _ | refine Below.step (by assumption) (by first | omega | (simp; omega) | simp) ?_))))).mono ?_
  · (repeat (first | assumption | refine Rd.ext ?_ | refine Rd.drew ?_ | refine Rd.drewN ?_ | refine Rd.set (by assumption) ?_ | refine Rd.lit (by assumption) (by simp) ?_ | refine Rd.alloc ?_ _ | omega))
  rintro e w5 ⟨_, q3, d3, os3, rfl, k4, k5, ⟨pt, rfl, hx⟩, hw5⟩
  have K5 : WK w R W2.heap.size w.heap.size W0.heap.size q3 (.slice A1 t.length cap1) cs t [.int .i64 a0, .int .i64 b0, .int .i64 c0, .int .i64 d0] false w5 := by
    rw [hw5]
    exact K2.out.pick (by omega) hRz (by omega) (by omega) (by omega)
  have hRB : R < W0.heap.size := hRz
  have hR0 : w.heap.size ≤ R := by omega
  have hG0 : w.heap.size ≤ w.heap.size := Nat.le_refl _
  have hRC : R ≠ W2.heap.size := by omega
  have hRG : R ≠ w.heap.size := by omega
  have hGC : w.heap.size ≠ W2.heap.size := by omega
  have hGB : w.heap.size < W0.heap.size := hGz
  have hGb : w.heap.size < w5.heap.size := K5.gl
  have hRb : R < w5.heap.size := (K5.rd rfl).lt
  have hq3 : q3 ≤ 1000000 := by omega
  obtain ⟨C, hC⟩ : ∃ C, C = W2.heap.size := ⟨_, rfl⟩
  have hn1 := h1
  have hn2 := h2
  clear hw5 K2 HR2 HW hr2
  go_wp2_with fail
  rw [← hC] at K5 hRC hGC ⊢
  clear hC
  refine wp_region_put [19, 20, 21, 22, 23, 24, 25, 26, 27, 28, 29, 30, 31, 2, 4, 5] (fun L us wx => ∃ u19 u20 u21 u22 u23 u24 u25 u26 u27 u28 u29 u30 u31 u2 u4 u5, us = [u19, u20, u21, u22, u23, u24, u25, u26, u27, u28, u29, u30, u31, u2, u4, u5] ∧ FW w R C w.heap.size W0.heap.size w5.heap.size q3 (.slice A1 t.length cap1) (.agg #[.int .i64 a0, .int .i64 b0, .int .i64 c0, .int .i64 d0]) (.string pt) cs t [.int .i64 a0, .int .i64 b0, .int .i64 c0, .int .i64 d0] L wx u19 u20 u21 u22 u23 u24 u25 u26 u27 u28 u29 u30 u31 u2 u4 u5) (by kernel_rfl) (by kernel_rfl) ?_ ?_ ?_
  · exact ⟨_, _, _, _, _, _, _, _, _, _, _, _, _, _, _, _, rfl, ⟨⟨q3, Int.le_refl _, by simp [b2n], K5.below (Below.drew (Below.refl _ _)), Nat.le_refl _, fun h => absurd h (by simp), fun h => absurd h (by simp)⟩, fun h => absurd h (by simp), fun _ h => absurd h (by simp), fun _ h => absurd h (by simp), fun _ h => absurd h (by simp), fun _ h => absurd h (by simp), fun _ h => absurd h (by simp), fun _ h => absurd h (by simp), fun _ h => absurd h (by simp), fun _ h => absurd h (by simp), fun _ h => absurd h (by simp), fun _ h => absurd h (by simp), fun _ h => absurd h (by simp), fun _ h => absurd h (by simp), fun _ h => absurd h (by simp), fun h => absurd h (by simp), fun h => absurd h (by simp), fun h => absurd h (by simp)⟩⟩
  · repeat' (first | exact Stps.nil | refine Stps.cons ?_ ?_)
    · show Stp _ _ _ _ _ 0 _
      intro L _ w hi hL ⟨us, hus, u19, u20, u21, u22, u23, u24, u25, u26, u27, u28, u29, u30, u31, u2, u4, u5, e, hF⟩ K hK
      subst hus
      have HF := Lib.hid hF
      clear hF
      obtain ⟨q, q1, q2, hk, hz, pa, pb⟩ := HF.out.com
      have hnl : L 16 = false := no_last (fun h => HF.out.cl h 0 (by decide)) hi
      subst e
      simp only [putsA, putsL, List.set_cons_zero, List.set_cons_succ]
      go_simp
      refine hK.out _ _ ⟨[.slice A1 t.length cap1, u20, u21, u22, u23, u24, u25, u26, u27, u28, u29, u30, u31, u2, u4, u5], by kernel_rfl, _, _, _, _, _, _, _, _, _, _, _, _, _, _, _, _, rfl, ⟨q, q1, q2, hk, hz, pa, pb⟩, fun h => absurd (show L 16 = true from h) (by simp [hnl]),
    fun _ _ => rfl,
    fun _ hj => HF.out.f1 hnl hj,
    fun _ hj => HF.out.f2 hnl hj,
    fun _ hj => HF.out.f3 hnl hj,
    fun _ hj => HF.out.f4 hnl hj,
    fun _ hj => HF.out.f5 hnl hj,
    fun _ hj => HF.out.f6 hnl hj,
    fun _ hj => HF.out.f7 hnl hj,
    fun _ hj => HF.out.f8 hnl hj,
    fun _ hj => HF.out.f9 hnl hj,
    fun _ hj => HF.out.f10 hnl hj,
    fun _ hj => HF.out.f11 hnl hj,
    fun _ hj => HF.out.f12 hnl hj,
    fun hj => HF.out.f13 hj,
    fun hj => HF.out.f15 hj,
    fun hj => HF.out.f16 hj⟩
    · show Stp _ _ _ _ _ 1 _
      intro L _ w hi hL ⟨us, hus, u19, u20, u21, u22, u23, u24, u25, u26, u27, u28, u29, u30, u31, u2, u4, u5, e, hF⟩ K hK
      subst hus
      have HF := Lib.hid hF
      clear hF
      obtain ⟨q, q1, q2, hk, hz, pa, pb⟩ := HF.out.com
      have hnl : L 16 = false := no_last (fun h => HF.out.cl h 1 (by decide)) hi
      have cl0 := hk.cx 0 _ rfl
      have cl1 := hk.cx 1 _ rfl
      have cl2 := hk.cx 2 _ rfl
      have cl3 := hk.cx 3 _ rfl
      subst e
      simp only [putsA, putsL, List.set_cons_zero, List.set_cons_succ]
      go_simp
      refine hK.out _ _ ⟨[u19, .agg #[.int .i64 a0, .int .i64 b0, .int .i64 c0, .int .i64 d0], u21, u22, u23, u24, u25, u26, u27, u28, u29, u30, u31, u2, u4, u5], by kernel_rfl, _, _, _, _, _, _, _, _, _, _, _, _, _, _, _, _, rfl, ⟨q, q1, q2, hk, hz, pa, pb⟩, fun h => absurd (show L 16 = true from h) (by simp [hnl]),
    fun _ hj => HF.out.f0 hnl hj,
    fun _ _ => rfl,
    fun _ hj => HF.out.f2 hnl hj,
    fun _ hj => HF.out.f3 hnl hj,
    fun _ hj => HF.out.f4 hnl hj,
    fun _ hj => HF.out.f5 hnl hj,
    fun _ hj => HF.out.f6 hnl hj,
    fun _ hj => HF.out.f7 hnl hj,
    fun _ hj => HF.out.f8 hnl hj,
    fun _ hj => HF.out.f9 hnl hj,
    fun _ hj => HF.out.f10 hnl hj,
    fun _ hj => HF.out.f11 hnl hj,
    fun _ hj => HF.out.f12 hnl hj,
    fun hj => HF.out.f13 hj,
    fun hj => HF.out.f15 hj,
    fun hj => HF.out.f16 hj⟩
    · show Stp _ _ _ _ _ 2 _
      intro L _ w hi hL ⟨us, hus, u19, u20, u21, u22, u23, u24, u25, u26, u27, u28, u29, u30, u31, u2, u4, u5, e, hF⟩ K hK
      subst hus
      have HF := Lib.hid hF
      clear hF
      obtain ⟨q, q1, q2, hk, hz, pa, pb⟩ := HF.out.com
      have hnl : L 16 = false := no_last (fun h => HF.out.cl h 2 (by decide)) hi
      subst e
      simp only [putsA, putsL, List.set_cons_zero, List.set_cons_succ]
      go_simp
      refine hK.out _ _ ⟨[u19, u20, .string pt, u22, u23, u24, u25, u26, u27, u28, u29, u30, u31, u2, u4, u5], by kernel_rfl, _, _, _, _, _, _, _, _, _, _, _, _, _, _, _, _, rfl, ⟨q, q1, q2, hk, hz, pa, pb⟩, fun h => absurd (show L 16 = true from h) (by simp [hnl]),
    fun _ hj => HF.out.f0 hnl hj,
    fun _ hj => HF.out.f1 hnl hj,
    fun _ _ => rfl,
    fun _ hj => HF.out.f3 hnl hj,
    fun _ hj => HF.out.f4 hnl hj,
    fun _ hj => HF.out.f5 hnl hj,
    fun _ hj => HF.out.f6 hnl hj,
    fun _ hj => HF.out.f7 hnl hj,
    fun _ hj => HF.out.f8 hnl hj,
    fun _ hj => HF.out.f9 hnl hj,
    fun _ hj => HF.out.f10 hnl hj,
    fun _ hj => HF.out.f11 hnl hj,
    fun _ hj => HF.out.f12 hnl hj,
    fun hj => HF.out.f13 hj,
    fun hj => HF.out.f15 hj,
    fun hj => HF.out.f16 hj⟩
    · show Stp _ _ _ _ _ 3 _
      intro L _ w hi hL ⟨us, hus, u19, u20, u21, u22, u23, u24, u25, u26, u27, u28, u29, u30, u31, u2, u4, u5, e, hF⟩ K hK
      subst hus
      have HF := Lib.hid hF
      clear hF
      obtain ⟨q, q1, q2, hk, hz, pa, pb⟩ := HF.out.com
      have hnl : L 16 = false := no_last (fun h => HF.out.cl h 3 (by decide)) hi
      subst e
      simp only [putsA, putsL, List.set_cons_zero, List.set_cons_succ]
      go_simp
      refine hK.out _ _ ⟨[u19, u20, u21, .slice (some ⟨w.heap.size, 0, none⟩) 41 41, u23, u24, u25, u26, u27, u28, u29, u30, u31, u2, u4, u5], by kernel_rfl, _, _, _, _, _, _, _, _, _, _, _, _, _, _, _, _, rfl, ⟨q, q1, q2, hk.alloc, by simp; omega, pa, pb⟩, fun h => absurd (show L 16 = true from h) (by simp [hnl]),
    fun _ hj => HF.out.f0 hnl hj,
    fun _ hj => HF.out.f1 hnl hj,
    fun _ hj => HF.out.f2 hnl hj,
    fun _ _ => IsMk.made hz,
    fun _ hj => HF.out.f4 hnl hj,
    fun _ hj => IsX4.ev (HF.out.f5 hnl hj) (En.alloc),
    fun _ hj => IsN6.ev (HF.out.f6 hnl hj) (En.alloc),
    fun _ hj => HF.out.f7 hnl hj,
    fun _ hj => HF.out.f8 hnl hj,
    fun _ hj => IsNq.ev (HF.out.f9 hnl hj) (En.alloc),
    fun _ hj => HF.out.f10 hnl hj,
    fun _ hj => IsSq.ev (HF.out.f11 hnl hj) (En.alloc),
    fun _ hj => HF.out.f12 hnl hj,
    fun hj => HF.out.f13 hj,
    fun hj => HF.out.f15 hj,
    fun hj => HF.out.f16 hj⟩
    · show Stp _ _ _ _ _ 4 _
      intro L _ w hi hL ⟨us, hus, u19, u20, u21, u22, u23, u24, u25, u26, u27, u28, u29, u30, u31, u2, u4, u5, e, hF⟩ K hK
      subst hus
      have HF := Lib.hid hF
      clear hF
      obtain ⟨q, q1, q2, hk, hz, pa, pb⟩ := HF.out.com
      have hnl : L 16 = false := no_last (fun h => HF.out.cl h 4 (by decide)) hi
      simp [Region.binds] at hL
      have g3 := HF.out.f3 hnl (by simp [hL])
      obtain ⟨g, rfl, k0, k1, k2⟩ := g3
      have hcv := run_convert_bytes_arg (P := Tryz.prog) w 22 5 Tryz.underlying22 Tryz.underlying5 g 0 41 41 (List.replicate 41 0) (List.length_replicate) (fun i hi => by rw [Nat.zero_add, k2 i hi]; rw [List.getD_eq_getElem?_getD, List.getElem?_replicate, if_pos hi]; rfl) 9 Tryz.underlying9
      subst e
      simp only [putsA, putsL, List.set_cons_zero, List.set_cons_succ]
      change _ = Result.ok (Value.string (zt 41)) w at hcv
      go_simp
      refine hK.out _ _ ⟨[u19, u20, u21, .slice (some ⟨g, 0, none⟩) 41 41, .string (zt 41), u24, u25, u26, u27, u28, u29, u30, u31, u2, u4, u5], by kernel_rfl, _, _, _, _, _, _, _, _, _, _, _, _, _, _, _, _, rfl, ⟨q, q1, q2, hk, hz, pa, pb⟩, fun h => absurd (show L 16 = true from h) (by simp [hnl]),
    fun _ hj => HF.out.f0 hnl hj,
    fun _ hj => HF.out.f1 hnl hj,
    fun _ hj => HF.out.f2 hnl hj,
    fun _ hj => HF.out.f3 hnl hj,
    fun _ _ => ⟨_, rfl, by rw [zt_size]; decide⟩,
    fun _ hj => HF.out.f5 hnl hj,
    fun _ hj => HF.out.f6 hnl hj,
    fun _ hj => HF.out.f7 hnl hj,
    fun _ hj => HF.out.f8 hnl hj,
    fun _ hj => HF.out.f9 hnl hj,
    fun _ hj => HF.out.f10 hnl hj,
    fun _ hj => HF.out.f11 hnl hj,
    fun _ hj => HF.out.f12 hnl hj,
    fun hj => HF.out.f13 hj,
    fun hj => HF.out.f15 hj,
    fun hj => HF.out.f16 hj⟩
    · show Stp _ _ _ _ _ 5 _
      intro L _ w hi hL ⟨us, hus, u19, u20, u21, u22, u23, u24, u25, u26, u27, u28, u29, u30, u31, u2, u4, u5, e, hF⟩ K hK
      subst hus
      have HF := Lib.hid hF
      clear hF
      obtain ⟨q, q1, q2, hk, hz, pa, pb⟩ := HF.out.com
      have hnl : L 16 = false := no_last (fun h => HF.out.cl h 5 (by decide)) hi
      simp [Region.binds] at hL
      have g4 := HF.out.f4 hnl (by simp [hL])
      obtain ⟨s, rfl, hs⟩ := g4
      subst e
      simp only [putsA, putsL, List.set_cons_zero, List.set_cons_succ]
      go_simp
      refine hK.out _ _ ⟨[u19, u20, u21, u22, .string s, .slice (some ⟨w.heap.size, 0, none⟩) 4 4, u25, u26, u27, u28, u29, u30, u31, u2, u4, u5], by kernel_rfl, _, _, _, _, _, _, _, _, _, _, _, _, _, _, _, _, rfl, ⟨q, q1, q2, hk.alloc, by simp; omega, pa, pb⟩, fun h => absurd (show L 16 = true from h) (by simp [hnl]),
    fun _ hj => HF.out.f0 hnl hj,
    fun _ hj => HF.out.f1 hnl hj,
    fun _ hj => HF.out.f2 hnl hj,
    fun _ hj => IsMk.ev (HF.out.f3 hnl hj) (En.alloc),
    fun _ hj => HF.out.f4 hnl hj,
    fun _ _ => IsX4.made hz (by decide) (by decide) (by decide) hs,
    fun _ hj => IsN6.ev (HF.out.f6 hnl hj) (En.alloc),
    fun _ hj => HF.out.f7 hnl hj,
    fun _ hj => HF.out.f8 hnl hj,
    fun _ hj => IsNq.ev (HF.out.f9 hnl hj) (En.alloc),
    fun _ hj => HF.out.f10 hnl hj,
    fun _ hj => IsSq.ev (HF.out.f11 hnl hj) (En.alloc),
    fun _ hj => HF.out.f12 hnl hj,
    fun hj => HF.out.f13 hj,
    fun hj => HF.out.f15 hj,
    fun hj => HF.out.f16 hj⟩
    · show Stp _ _ _ _ _ 6 _
      intro L _ w hi hL ⟨us, hus, u19, u20, u21, u22, u23, u24, u25, u26, u27, u28, u29, u30, u31, u2, u4, u5, e, hF⟩ K hK
      subst hus
      have HF := Lib.hid hF
      clear hF
      obtain ⟨q, q1, q2, hk, hz, pa, pb⟩ := HF.out.com
      have hnl : L 16 = false := no_last (fun h => HF.out.cl h 6 (by decide)) hi
      subst e
      simp only [putsA, putsL, List.set_cons_zero, List.set_cons_succ]
      go_simp
      refine hK.out _ _ ⟨[u19, u20, u21, u22, u23, u24, .slice (some ⟨w.heap.size, 0, none⟩) 6 6, u26, u27, u28, u29, u30, u31, u2, u4, u5], by kernel_rfl, _, _, _, _, _, _, _, _, _, _, _, _, _, _, _, _, rfl, ⟨q, q1, q2, hk.alloc, by simp; omega, pa, pb⟩, fun h => absurd (show L 16 = true from h) (by simp [hnl]),
    fun _ hj => HF.out.f0 hnl hj,
    fun _ hj => HF.out.f1 hnl hj,
    fun _ hj => HF.out.f2 hnl hj,
    fun _ hj => IsMk.ev (HF.out.f3 hnl hj) (En.alloc),
    fun _ hj => HF.out.f4 hnl hj,
    fun _ hj => IsX4.ev (HF.out.f5 hnl hj) (En.alloc),
    fun _ _ => IsN6.made hz,
    fun _ hj => HF.out.f7 hnl hj,
    fun _ hj => HF.out.f8 hnl hj,
    fun _ hj => IsNq.ev (HF.out.f9 hnl hj) (En.alloc),
    fun _ hj => HF.out.f10 hnl hj,
    fun _ hj => IsSq.ev (HF.out.f11 hnl hj) (En.alloc),
    fun _ hj => HF.out.f12 hnl hj,
    fun hj => HF.out.f13 hj,
    fun hj => HF.out.f15 hj,
    fun hj => HF.out.f16 hj⟩
    · show Stp _ _ _ _ _ 7 _
      intro L _ w hi hL ⟨us, hus, u19, u20, u21, u22, u23, u24, u25, u26, u27, u28, u29, u30, u31, u2, u4, u5, e, hF⟩ K hK
      subst hus
      have HF := Lib.hid hF
      clear hF
      obtain ⟨q, q1, q2, hk, hz, pa, pb⟩ := HF.out.com
      have hnl : L 16 = false := no_last (fun h => HF.out.cl h 7 (by decide)) hi
      subst e
      simp only [putsA, putsL, List.set_cons_zero, List.set_cons_succ]
      go_simp
      refine hK.out _ _ ⟨[u19, u20, u21, u22, u23, u24, u25, .pointer (some ⟨R, 0, none⟩), u27, u28, u29, u30, u31, u2, u4, u5], by kernel_rfl, _, _, _, _, _, _, _, _, _, _, _, _, _, _, _, _, rfl, ⟨q, q1, q2, hk, hz, pa, pb⟩, fun h => absurd (show L 16 = true from h) (by simp [hnl]),
    fun _ hj => HF.out.f0 hnl hj,
    fun _ hj => HF.out.f1 hnl hj,
    fun _ hj => HF.out.f2 hnl hj,
    fun _ hj => HF.out.f3 hnl hj,
    fun _ hj => HF.out.f4 hnl hj,
    fun _ hj => HF.out.f5 hnl hj,
    fun _ hj => HF.out.f6 hnl hj,
    fun _ _ => rfl,
    fun _ hj => HF.out.f8 hnl hj,
    fun _ hj => HF.out.f9 hnl hj,
    fun _ hj => HF.out.f10 hnl hj,
    fun _ hj => HF.out.f11 hnl hj,
    fun _ hj => HF.out.f12 hnl hj,
    fun hj => HF.out.f13 hj,
    fun hj => HF.out.f15 hj,
    fun hj => HF.out.f16 hj⟩
    · show Stp _ _ _ _ _ 8 _
      intro L _ w hi hL ⟨us, hus, u19, u20, u21, u22, u23, u24, u25, u26, u27, u28, u29, u30, u31, u2, u4, u5, e, hF⟩ K hK
      subst hus
      have HF := Lib.hid hF
      clear hF
      obtain ⟨q, q1, q2, hk, hz, pa, pb⟩ := HF.out.com
      have hnl : L 16 = false := no_last (fun h => HF.out.cl h 8 (by decide)) hi
      simp [Region.binds] at hL
      have g7 := HF.out.f7 hnl (by simp [hL])
      obtain rfl := g7
      have hst : L 14 = false := Bool.eq_false_iff.2 (fun h => by rw [pb h] at hi; cases hi)
      have q5 : q ≤ q3 := by rw [show L 8 = false from hi] at q2; simpa [b2n] using q2
      have hrd := hk.rd hst
      subst e
      simp only [putsA, putsL, List.set_cons_zero, List.set_cons_succ]
      go_simp
      refine (pick_any R q 6 _ hrd (by omega)).mono ?_
      rintro e w' ⟨v, d', rfl, h0, h1, h2, rfl⟩
      replace h1 := h1 (by omega)
      go_simp
      refine hK.out _ _ ⟨[u19, u20, u21, u22, u23, u24, u25, .pointer (some ⟨R, 0, none⟩), .int .i64 v, u28, u29, u30, u31, u2, u4, u5], by kernel_rfl, _, _, _, _, _, _, _, _, _, _, _, _, _, _, _, _, rfl, ⟨q + 1, by omega, by simp [b2n]; omega, hk.pick (by omega) hRB hR0 hRC hRG, by simp; omega, fun _ => by simp, fun _ => by simp⟩, fun h => absurd (show L 16 = true from h) (by simp [hnl]),
    fun _ hj => HF.out.f0 hnl hj,
    fun _ hj => HF.out.f1 hnl hj,
    fun _ hj => HF.out.f2 hnl hj,
    fun _ hj => IsMk.ev (HF.out.f3 hnl hj) (En.pick hRb),
    fun _ hj => HF.out.f4 hnl hj,
    fun _ hj => IsX4.ev (HF.out.f5 hnl hj) (En.pick hRb),
    fun _ hj => IsN6.ev (HF.out.f6 hnl hj) (En.pick hRb),
    fun _ hj => HF.out.f7 hnl hj,
    fun _ _ => ⟨_, rfl, h0, h1⟩,
    fun _ hj => IsNq.ev (HF.out.f9 hnl hj) (En.pick hRb),
    fun _ hj => HF.out.f10 hnl hj,
    fun _ hj => IsSq.ev (HF.out.f11 hnl hj) (En.pick hRb),
    fun _ hj => HF.out.f12 hnl hj,
    fun hj => HF.out.f13 hj,
    fun hj => HF.out.f15 hj,
    fun hj => HF.out.f16 hj⟩
    · show Stp _ _ _ _ _ 9 _
      intro L _ w hi hL ⟨us, hus, u19, u20, u21, u22, u23, u24, u25, u26, u27, u28, u29, u30, u31, u2, u4, u5, e, hF⟩ K hK
      subst hus
      have HF := Lib.hid hF
      clear hF
      obtain ⟨q, q1, q2, hk, hz, pa, pb⟩ := HF.out.com
      have hnl : L 16 = false := no_last (fun h => HF.out.cl h 9 (by decide)) hi
      simp [Region.binds] at hL
      have g6 := HF.out.f6 hnl (by simp [hL])
      have g8 := HF.out.f8 hnl (by simp [hL])
      obtain ⟨g, rfl, k0, k1, k2⟩ := g6
      obtain ⟨v, rfl, v0, v1⟩ := g8
      subst e
      simp only [putsA, putsL, List.set_cons_zero, List.set_cons_succ]
      go_simp
      refine hK.out _ _ ⟨[u19, u20, u21, u22, u23, u24, .slice (some ⟨g, 0, none⟩) 6 6, u26, .int .i64 v, .pointer (some ⟨g, v.toNat, none⟩), u29, u30, u31, u2, u4, u5], by kernel_rfl, _, _, _, _, _, _, _, _, _, _, _, _, _, _, _, _, rfl, ⟨q, q1, q2, hk, hz, pa, pb⟩, fun h => absurd (show L 16 = true from h) (by simp [hnl]),
    fun _ hj => HF.out.f0 hnl hj,
    fun _ hj => HF.out.f1 hnl hj,
    fun _ hj => HF.out.f2 hnl hj,
    fun _ hj => HF.out.f3 hnl hj,
    fun _ hj => HF.out.f4 hnl hj,
    fun _ hj => HF.out.f5 hnl hj,
    fun _ hj => HF.out.f6 hnl hj,
    fun _ hj => HF.out.f7 hnl hj,
    fun _ hj => HF.out.f8 hnl hj,
    fun _ _ => IsNq.of k0 k1 k2 v0 v1,
    fun _ hj => HF.out.f10 hnl hj,
    fun _ hj => HF.out.f11 hnl hj,
    fun _ hj => HF.out.f12 hnl hj,
    fun hj => HF.out.f13 hj,
    fun hj => HF.out.f15 hj,
    fun hj => HF.out.f16 hj⟩
    · show Stp _ _ _ _ _ 10 _
      intro L _ w hi hL ⟨us, hus, u19, u20, u21, u22, u23, u24, u25, u26, u27, u28, u29, u30, u31, u2, u4, u5, e, hF⟩ K hK
      subst hus
      have HF := Lib.hid hF
      clear hF
      obtain ⟨q, q1, q2, hk, hz, pa, pb⟩ := HF.out.com
      have hnl : L 16 = false := no_last (fun h => HF.out.cl h 10 (by decide)) hi
      simp [Region.binds] at hL
      have g9 := HF.out.f9 hnl (by simp [hL])
      obtain ⟨g, k, rfl, k0, k1, x, k3, x0, x1⟩ := g9
      subst e
      simp only [putsA, putsL, List.set_cons_zero, List.set_cons_succ]
      go_simp
      refine hK.out _ _ ⟨[u19, u20, u21, u22, u23, u24, u25, u26, u27, .pointer (some ⟨g, k, none⟩), .int .i64 x, u30, u31, u2, u4, u5], by kernel_rfl, _, _, _, _, _, _, _, _, _, _, _, _, _, _, _, _, rfl, ⟨q, q1, q2, hk, hz, pa, pb⟩, fun h => absurd (show L 16 = true from h) (by simp [hnl]),
    fun _ hj => HF.out.f0 hnl hj,
    fun _ hj => HF.out.f1 hnl hj,
    fun _ hj => HF.out.f2 hnl hj,
    fun _ hj => HF.out.f3 hnl hj,
    fun _ hj => HF.out.f4 hnl hj,
    fun _ hj => HF.out.f5 hnl hj,
    fun _ hj => HF.out.f6 hnl hj,
    fun _ hj => HF.out.f7 hnl hj,
    fun _ hj => HF.out.f8 hnl hj,
    fun _ hj => HF.out.f9 hnl hj,
    fun _ _ => ⟨_, rfl, x0, x1⟩,
    fun _ hj => HF.out.f11 hnl hj,
    fun _ hj => HF.out.f12 hnl hj,
    fun hj => HF.out.f13 hj,
    fun hj => HF.out.f15 hj,
    fun hj => HF.out.f16 hj⟩
    · show Stp _ _ _ _ _ 11 _
      intro L _ w hi hL ⟨us, hus, u19, u20, u21, u22, u23, u24, u25, u26, u27, u28, u29, u30, u31, u2, u4, u5, e, hF⟩ K hK
      subst hus
      have HF := Lib.hid hF
      clear hF
      obtain ⟨q, q1, q2, hk, hz, pa, pb⟩ := HF.out.com
      have hnl : L 16 = false := no_last (fun h => HF.out.cl h 11 (by decide)) hi
      simp [Region.binds] at hL
      have g5 := HF.out.f5 hnl (by simp [hL])
      have g10 := HF.out.f10 hnl (by simp [hL])
      obtain ⟨g, rfl, k0, k1, k2⟩ := g5
      obtain ⟨x, rfl, v0, v1⟩ := g10
      subst e
      simp only [putsA, putsL, List.set_cons_zero, List.set_cons_succ]
      go_simp
      refine hK.out _ _ ⟨[u19, u20, u21, u22, u23, .slice (some ⟨g, 0, none⟩) 4 4, u25, u26, u27, u28, .int .i64 x, .pointer (some ⟨g, x.toNat, none⟩), u31, u2, u4, u5], by kernel_rfl, _, _, _, _, _, _, _, _, _, _, _, _, _, _, _, _, rfl, ⟨q, q1, q2, hk, hz, pa, pb⟩, fun h => absurd (show L 16 = true from h) (by simp [hnl]),
    fun _ hj => HF.out.f0 hnl hj,
    fun _ hj => HF.out.f1 hnl hj,
    fun _ hj => HF.out.f2 hnl hj,
    fun _ hj => HF.out.f3 hnl hj,
    fun _ hj => HF.out.f4 hnl hj,
    fun _ hj => HF.out.f5 hnl hj,
    fun _ hj => HF.out.f6 hnl hj,
    fun _ hj => HF.out.f7 hnl hj,
    fun _ hj => HF.out.f8 hnl hj,
    fun _ hj => HF.out.f9 hnl hj,
    fun _ hj => HF.out.f10 hnl hj,
    fun _ _ => IsSq.of k0 k1 k2 v0 v1,
    fun _ hj => HF.out.f12 hnl hj,
    fun hj => HF.out.f13 hj,
    fun hj => HF.out.f15 hj,
    fun hj => HF.out.f16 hj⟩
    · show Stp _ _ _ _ _ 12 _
      intro L _ w hi hL ⟨us, hus, u19, u20, u21, u22, u23, u24, u25, u26, u27, u28, u29, u30, u31, u2, u4, u5, e, hF⟩ K hK
      subst hus
      have HF := Lib.hid hF
      clear hF
      obtain ⟨q, q1, q2, hk, hz, pa, pb⟩ := HF.out.com
      have hnl : L 16 = false := no_last (fun h => HF.out.cl h 12 (by decide)) hi
      simp [Region.binds] at hL
      have g11 := HF.out.f11 hnl (by simp [hL])
      obtain ⟨g, k, rfl, k0, k1, s, k3, k4⟩ := g11
      subst e
      simp only [putsA, putsL, List.set_cons_zero, List.set_cons_succ]
      go_simp
      refine hK.out _ _ ⟨[u19, u20, u21, u22, u23, u24, u25, u26, u27, u28, u29, .pointer (some ⟨g, k, none⟩), .string s, u2, u4, u5], by kernel_rfl, _, _, _, _, _, _, _, _, _, _, _, _, _, _, _, _, rfl, ⟨q, q1, q2, hk, hz, pa, pb⟩, fun h => absurd (show L 16 = true from h) (by simp [hnl]),
    fun _ hj => HF.out.f0 hnl hj,
    fun _ hj => HF.out.f1 hnl hj,
    fun _ hj => HF.out.f2 hnl hj,
    fun _ hj => HF.out.f3 hnl hj,
    fun _ hj => HF.out.f4 hnl hj,
    fun _ hj => HF.out.f5 hnl hj,
    fun _ hj => HF.out.f6 hnl hj,
    fun _ hj => HF.out.f7 hnl hj,
    fun _ hj => HF.out.f8 hnl hj,
    fun _ hj => HF.out.f9 hnl hj,
    fun _ hj => HF.out.f10 hnl hj,
    fun _ hj => HF.out.f11 hnl hj,
    fun _ _ => ⟨_, rfl, k4⟩,
    fun hj => HF.out.f13 hj,
    fun hj => HF.out.f15 hj,
    fun hj => HF.out.f16 hj⟩
    · show Stp _ _ _ _ _ 13 _
      intro L _ w hi hL ⟨us, hus, u19, u20, u21, u22, u23, u24, u25, u26, u27, u28, u29, u30, u31, u2, u4, u5, e, hF⟩ K hK
      subst hus
      have HF := Lib.hid hF
      clear hF
      obtain ⟨q, q1, q2, hk, hz, pa, pb⟩ := HF.out.com
      have hnl : L 16 = false := no_last (fun h => HF.out.cl h 13 (by decide)) hi
      simp [Region.binds] at hL
      have g0 := HF.out.f0 hnl (by simp [hL])
      obtain rfl := g0
      subst e
      simp only [putsA, putsL, List.set_cons_zero, List.set_cons_succ]
      go_simp
      refine hK.out _ _ ⟨[.slice A1 t.length cap1, u20, u21, u22, u23, u24, u25, u26, u27, u28, u29, u30, u31, .slice A1 t.length cap1, u4, u5], by kernel_rfl, _, _, _, _, _, _, _, _, _, _, _, _, _, _, _, _, rfl, ⟨q, q1, q2, hk, hz, fun _ => (show L 8 = true from by simp [hL]), pb⟩, fun h => absurd (show L 16 = true from h) (by simp [hnl]),
    fun _ hj => HF.out.f0 hnl hj,
    fun _ hj => HF.out.f1 hnl hj,
    fun _ hj => HF.out.f2 hnl hj,
    fun _ hj => HF.out.f3 hnl hj,
    fun _ hj => HF.out.f4 hnl hj,
    fun _ hj => HF.out.f5 hnl hj,
    fun _ hj => HF.out.f6 hnl hj,
    fun _ hj => HF.out.f7 hnl hj,
    fun _ hj => HF.out.f8 hnl hj,
    fun _ hj => HF.out.f9 hnl hj,
    fun _ hj => HF.out.f10 hnl hj,
    fun _ hj => HF.out.f11 hnl hj,
    fun _ hj => HF.out.f12 hnl hj,
    fun _ => rfl,
    fun hj => HF.out.f15 hj,
    fun hj => HF.out.f16 hj⟩
    · show Stp _ _ _ _ _ 14 _
      intro L _ w hi hL ⟨us, hus, u19, u20, u21, u22, u23, u24, u25, u26, u27, u28, u29, u30, u31, u2, u4, u5, e, hF⟩ K hK
      subst hus
      have HF := Lib.hid hF
      clear hF
      obtain ⟨q, q1, q2, hk, hz, pa, pb⟩ := HF.out.com
      have hnl : L 16 = false := no_last (fun h => HF.out.cl h 14 (by decide)) hi
      simp [Region.binds] at hL
      have g1 := HF.out.f1 hnl (by simp [hL])
      obtain rfl := g1
      obtain ⟨y0, e0, _⟩ := hk.gx 0 _ rfl
      have f0 := hk.gf 0
      obtain ⟨y1, e1, _⟩ := hk.gx 1 _ rfl
      have f1 := hk.gf 1
      obtain ⟨y2, e2, _⟩ := hk.gx 2 _ rfl
      have f2 := hk.gf 2
      obtain ⟨y3, e3, _⟩ := hk.gx 3 _ rfl
      have f3 := hk.gf 3
      subst e
      simp only [putsA, putsL, List.set_cons_zero, List.set_cons_succ]
      go_simp
      refine hK.out _ _ ⟨[u19, .agg #[.int .i64 a0, .int .i64 b0, .int .i64 c0, .int .i64 d0], u21, u22, u23, u24, u25, u26, u27, u28, u29, u30, u31, u2, u4, u5], by kernel_rfl, _, _, _, _, _, _, _, _, _, _, _, _, _, _, _, _, rfl, ⟨q, q1, q2, hk.store4 hGB hG0 hGC, by simp; omega, pa, fun _ => pa (by simp [hL])⟩, fun h => absurd (show L 16 = true from h) (by simp [hnl]),
    fun _ hj => HF.out.f0 hnl hj,
    fun _ hj => HF.out.f1 hnl hj,
    fun _ hj => HF.out.f2 hnl hj,
    fun _ hj => IsMk.ev (HF.out.f3 hnl hj) ((En.trans (En.trans (En.trans (En.set hGb) (En.set hGb)) (En.set hGb)) (En.set hGb))),
    fun _ hj => HF.out.f4 hnl hj,
    fun _ hj => IsX4.ev (HF.out.f5 hnl hj) ((En.trans (En.trans (En.trans (En.set hGb) (En.set hGb)) (En.set hGb)) (En.set hGb))),
    fun _ hj => IsN6.ev (HF.out.f6 hnl hj) ((En.trans (En.trans (En.trans (En.set hGb) (En.set hGb)) (En.set hGb)) (En.set hGb))),
    fun _ hj => HF.out.f7 hnl hj,
    fun _ hj => HF.out.f8 hnl hj,
    fun _ hj => IsNq.ev (HF.out.f9 hnl hj) ((En.trans (En.trans (En.trans (En.set hGb) (En.set hGb)) (En.set hGb)) (En.set hGb))),
    fun _ hj => HF.out.f10 hnl hj,
    fun _ hj => IsSq.ev (HF.out.f11 hnl hj) ((En.trans (En.trans (En.trans (En.set hGb) (En.set hGb)) (En.set hGb)) (En.set hGb))),
    fun _ hj => HF.out.f12 hnl hj,
    fun hj => HF.out.f13 hj,
    fun hj => HF.out.f15 hj,
    fun hj => HF.out.f16 hj⟩
    · show Stp _ _ _ _ _ 15 _
      intro L _ w hi hL ⟨us, hus, u19, u20, u21, u22, u23, u24, u25, u26, u27, u28, u29, u30, u31, u2, u4, u5, e, hF⟩ K hK
      subst hus
      have HF := Lib.hid hF
      clear hF
      obtain ⟨q, q1, q2, hk, hz, pa, pb⟩ := HF.out.com
      have hnl : L 16 = false := no_last (fun h => HF.out.cl h 15 (by decide)) hi
      simp [Region.binds] at hL
      have g2 := HF.out.f2 hnl (by simp [hL])
      obtain rfl := g2
      subst e
      simp only [putsA, putsL, List.set_cons_zero, List.set_cons_succ]
      go_simp
      refine hK.out _ _ ⟨[u19, u20, .string pt, u22, u23, u24, u25, u26, u27, u28, u29, u30, u31, u2, .string pt, u5], by kernel_rfl, _, _, _, _, _, _, _, _, _, _, _, _, _, _, _, _, rfl, ⟨q, q1, q2, hk, hz, pa, pb⟩, fun h => absurd (show L 16 = true from h) (by simp [hnl]),
    fun _ hj => HF.out.f0 hnl hj,
    fun _ hj => HF.out.f1 hnl hj,
    fun _ hj => HF.out.f2 hnl hj,
    fun _ hj => HF.out.f3 hnl hj,
    fun _ hj => HF.out.f4 hnl hj,
    fun _ hj => HF.out.f5 hnl hj,
    fun _ hj => HF.out.f6 hnl hj,
    fun _ hj => HF.out.f7 hnl hj,
    fun _ hj => HF.out.f8 hnl hj,
    fun _ hj => HF.out.f9 hnl hj,
    fun _ hj => HF.out.f10 hnl hj,
    fun _ hj => HF.out.f11 hnl hj,
    fun _ hj => HF.out.f12 hnl hj,
    fun hj => HF.out.f13 hj,
    fun _ => rfl,
    fun hj => HF.out.f16 hj⟩
    · show Stp _ _ _ _ _ 16 _
      intro L _ w hi hL ⟨us, hus, u19, u20, u21, u22, u23, u24, u25, u26, u27, u28, u29, u30, u31, u2, u4, u5, e, hF⟩ K hK
      subst hus
      have HF := Lib.hid hF
      clear hF
      obtain ⟨q, q1, q2, hk, hz, pa, pb⟩ := HF.out.com
      simp [Region.binds] at hL
      have hall : ∀ k, k < 16 → L k = true := by
        intro k hk
        have hk' : k = 0 ∨ k = 1 ∨ k = 2 ∨ k = 3 ∨ k = 4 ∨ k = 5 ∨ k = 6 ∨ k = 7 ∨ k = 8 ∨ k = 9 ∨ k = 10 ∨ k = 11 ∨ k = 12 ∨ k = 13 ∨ k = 14 ∨ k = 15 := by omega
        rcases hk' with h | h | h | h | h | h | h | h | h | h | h | h | h | h | h | h
        all_goals (rw [h]; simp only [hL])
      have g12 := HF.out.f12 (by simpa using hi) (by simp [hL])
      obtain ⟨s, rfl, hs⟩ := g12
      subst e
      simp only [putsA, putsL, List.set_cons_zero, List.set_cons_succ]
      go_simp
      refine hK.out _ _ ⟨[u19, u20, u21, u22, u23, u24, u25, u26, u27, u28, u29, u30, .string s, u2, u4, .string s], by kernel_rfl, _, _, _, _, _, _, _, _, _, _, _, _, _, _, _, _, rfl, ⟨q, q1, q2, hk, hz, pa, pb⟩, fun _ k hk => upd_of (hall k hk),
    fun h => absurd h (by simp),
    fun h => absurd h (by simp),
    fun h => absurd h (by simp),
    fun h => absurd h (by simp),
    fun h => absurd h (by simp),
    fun h => absurd h (by simp),
    fun h => absurd h (by simp),
    fun h => absurd h (by simp),
    fun h => absurd h (by simp),
    fun h => absurd h (by simp),
    fun h => absurd h (by simp),
    fun h => absurd h (by simp),
    fun h => absurd h (by simp),
    fun hj => HF.out.f13 hj,
    fun hj => HF.out.f15 hj,
    fun _ => ⟨_, rfl, hs⟩⟩
  · intro L us wx hL ⟨u19, u20, u21, u22, u23, u24, u25, u26, u27, u28, u29, u30, u31, u2, u4, u5, hus, hF⟩
    subst hus
    obtain ⟨q, r1, r2, hk, _, _, _⟩ := hF.com
    obtain rfl := hF.f13 (hL 13 (by decide))
    obtain rfl := hF.f15 (hL 15 (by decide))
    obtain ⟨s, rfl, hs⟩ := hF.f16 (hL 16 (by decide))
    rw [hL 14 (by decide)] at hk
    obtain ⟨_, y0, e0⟩ := hk.gx 0 _ rfl
    obtain ⟨_, y1, e1⟩ := hk.gx 1 _ rfl
    obtain ⟨_, y2, e2⟩ := hk.gx 2 _ rfl
    obtain ⟨_, y3, e3⟩ := hk.gx 3 _ rfl
    rw [e0 rfl] at y0
    rw [e1 rfl] at y1
    rw [e2 rfl] at y2
    rw [e3 rfl] at y3
    have HK := Lib.hid hk
    clear hF hk e0 e1 e2 e3
    simp only [putsA, putsL, List.set_cons_zero, List.set_cons_succ]
    go_wp2
    refine bodyPost_ret (v := .tuple #[.slice A1 t.length cap1, .agg #[.int .i64 a0, .int .i64 b0, .int .i64 c0, .int .i64 d0], .string pt, .string s]) ?_ rfl ?_
    · simp only [results, Tryz.results24]
      go_simp
    · exact ⟨_, t, _, _, _, _, _, _, rfl, ⟨cs, TreeC.mono HK.out.tr (by omega)⟩, hn1, hn2, hx, hs, HK.out.be⟩
end Go.Proofs.YthfneaaenlgegaaGreatDoor
