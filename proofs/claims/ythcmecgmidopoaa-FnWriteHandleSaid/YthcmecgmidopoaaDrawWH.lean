/- What is drawn: a tree, a handle and a text. -/
import Derived.Test.YthcmecgmidopoaaDrawTx
import Derived.Test.YthcmecgmidopoaaDrawRH
set_option linter.unusedSimpArgs false
set_option linter.unusedVariables false
set_option linter.unusedSectionVars false
namespace Go.Proofs.Ythcmecgmidopoaa
open Go.RowKit

theorem WK.startH {w W : World} {R B : Nat} {q a b c : Int} {v : Value} {cs : List Cn} {t : List Nd} {T : TypeId} (h : DH w W R q) (hT : TreeC B W v cs t) (hlt : w.heap.size < W.heap.size) : WK w R W.heap.size w.heap.size B q v cs t [.int .i64 a, .int .i64 b, .int .i64 c] false (W.alloc (.cells #[.int .i64 a, .int .i64 b, .int .i64 c] T)) := by
  have hb : Below W.heap.size W (W.alloc (.cells #[.int .i64 a, .int .i64 b, .int .i64 c] T)) := Below.alloc (Below.refl _ _) (Nat.le_refl _) _
  refine ⟨fun _ => rd_below h.rd hb, hT.below hb, Below.step hb h.below.size h.below, fun i u hu => ?_, fun i u hu => ⟨.int .i64 0, (hb.cell (p := ⟨w.heap.size, i, none⟩) hlt).trans (h.cell i ?_), fun e => by cases e⟩, fun i => (hb.frozen (p := ⟨w.heap.size, i, none⟩) hlt).trans (h.froz i), by simp, by simp; omega⟩
  · rcases i with _ | _ | _ | i
    · cases hu; go_simp
    · cases hu; go_simp
    · cases hu; go_simp
    · simp at hu
  · have := (List.getElem?_eq_some_iff.1 hu).1
    simpa using this
structure FH (w0 : World) (R C G B base : Nat) (q0 : Int) (VT VC VP : Value) (cs : List Cn) (t : List Nd) (xs : List Value) (L : Nat → Bool) (w : World) (u15 u16 u17 u18 u19 u20 u21 u22 u23 u24 u25 u26 u2 u4 : Value) : Prop where
  com : ∃ q, q0 ≤ q ∧ q ≤ q0 + b2n (L 7) ∧ WK w0 R C G B q VT cs t xs (L 13) w ∧ base ≤ w.heap.size ∧ (L 12 = true → L 7 = true) ∧ (L 13 = true → L 7 = true)
  cl : L 14 = true → ∀ k, k < 14 → L k = true
  f0 : (L 14 = false → L 0 = true → u15 = VT)
  f1 : (L 14 = false → L 1 = true → u16 = VC)
  f2 : (L 14 = false → L 2 = true → IsMk 40 base u17 w)
  f3 : (L 14 = false → L 3 = true → ∃ s : ByteArray, u18 = .string s ∧ s.size ≤ 41)
  f4 : (L 14 = false → L 4 = true → IsX4 base u19 w)
  f5 : (L 14 = false → L 5 = true → IsN6 base u20 w)
  f6 : (L 14 = false → L 6 = true → u21 = .pointer (some ⟨R, 0, none⟩))
  f7 : (L 14 = false → L 7 = true → ∃ v : Int, u22 = .int .i64 v ∧ 0 ≤ v ∧ v < 6)
  f8 : (L 14 = false → L 8 = true → IsNq base u23 w)
  f9 : (L 14 = false → L 9 = true → ∃ x : Int, u24 = .int .i64 x ∧ 0 ≤ x ∧ x < 4)
  f10 : (L 14 = false → L 10 = true → IsSq base u25 w)
  f11 : (L 14 = false → L 11 = true → ∃ s : ByteArray, u26 = .string s ∧ s.size ≤ 41)
  f12 : (L 12 = true → u2 = VT)
  f14 : (L 14 = true → ∃ s : ByteArray, u4 = .string s ∧ s.size ≤ 41)
/-- A tree, a handle and a text are drawn. -/
def GotHT (w : World) (e : Ending) (w' : World) : Prop := ∃ (v : Value) (t : List Nd) (f a r : Int) (x : ByteArray), e = .returned (.tuple #[v, .agg #[.int .i64 f, .int .i64 a, .int .i64 r], .string x]) ∧ TreeO w.heap.size w' v t ∧ t.length ≤ 20 ∧ (kidsOf t).length ≤ 16 ∧ -1 ≤ a ∧ a ≤ 41 ∧ x.size ≤ 41 ∧ Below w.heap.size w w'
set_option maxRecDepth 100000 in
set_option maxHeartbeats 20000000 in
theorem drawWH_any (a : Option Addr) (len cap : Nat) (zs : List Int) (w : World) (hrow : IsRow .u8 w a len cap zs) : Calls Try.prog 32 #[.slice a len cap] w (GotHT w) := by
  have hmk : ∀ w : World, (Instr.makeSlice 22 (.int .i64 40) (.int .i64 40)).run Try.prog w = .ok (.slice (some ⟨w.heap.size, 0, none⟩) 40 40) (w.alloc (.cells (zc 40) 5)) := fun _ => by kernel_rfl
  go_enter Try.func32, Try.ntmps32
  go_wp2_with (go_at_call 40; refine (open_any _ _ _ _ _ (IsRow.below hrow (by repeat (first | exact Below.refl _ _ | refine Below.alloc ?_ (by simp; try omega) _)))).mono ?_; rintro e w' ⟨A, le, ca, rfl, rfl, zs', hby⟩; (try simp only [World.size_alloc] at hby))
  have D0 := DH.start hby
  obtain ⟨W0, hW0⟩ : ∃ W0, W0 = ((w.alloc (.cells #[.int .i64 0, .int .i64 0, .int .i64 0] 40)).alloc (.cells #[.slice A le ca, .int .i64 0] 85)) := ⟨_, rfl⟩
  have hz0 : W0.heap.size = w.heap.size + 2 := by rw [hW0]; simp
  rw [← hW0] at D0 ⊢
  obtain ⟨R, hR⟩ : ∃ R, R = w.heap.size + 1 := ⟨_, rfl⟩
  rw [← hR] at D0
  simp only [← hR]
  have hRz : R < W0.heap.size := by omega
  have hGz : w.heap.size < W0.heap.size := by omega
  clear hW0 hR hby hrow hz0
  refine (l20Tree_any R 0 14 W0 D0.rd (by decide) (by decide) (by decide)).mono ?_
  rintro e W1 ⟨v, cs, t, q1, rfl, hT, h1, h2, h3, k0, k1, hRB⟩
  have D1 := D0.step k0 hRB
  have hr1 := D1.rd
  have HT1 := Lib.hid hT
  have HD1 := Lib.hid D1
  have hlt := D0.lt
  have HR1 := Lib.hid (fun q : Int => TreeO.r ⟨_, hT.rset (i := 1) (u := .int .i64 q) hRz⟩)
  obtain ⟨A1, cap1, rfl⟩ := (TreeO.r ⟨_, hT⟩).shape
  clear D0 D1 hT hRB h3
  go_wp2_with fail
  refine (l20Handle_any R q1 _ t W1 hr1 (by omega) HR1.out h1).mono ?_
  rintro e W2 ⟨hf, ha, hr, qz, rfl, kf0, kf1, ka0, ka1, kr0, kr1, k2, k3, hRB⟩
  have D2 := HD1.out.step (by omega) hRB
  have T2 := HT1.out.step hRz hRB
  have hz2 : w.heap.size < W2.heap.size := by have := D2.rd.lt; omega
  have K5 := WK.startH (a := hf) (b := ha) (c := hr) (T := 40) D2 T2 hz2
  have hRB : R < W0.heap.size := hRz
  have hR0 : w.heap.size ≤ R := by omega
  have hG0 : w.heap.size ≤ w.heap.size := Nat.le_refl _
  have hRlt := D2.rd.lt
  have hRC : R ≠ W2.heap.size := by omega
  have hRG : R ≠ w.heap.size := by omega
  have hGC : w.heap.size ≠ W2.heap.size := by omega
  have hGB : w.heap.size < W0.heap.size := hGz
  have hqz : qz ≤ 1000000 := by omega
  obtain ⟨C, hC⟩ : ∃ C, C = W2.heap.size := ⟨_, rfl⟩
  have hn1 := h1
  have hn2 := h2
  clear D2 T2 HD1 HT1 hr1 HR1
  go_wp2_with fail
  obtain ⟨w5, hw5⟩ : ∃ w5, w5 = W2.alloc (.cells #[.int .i64 hf, .int .i64 ha, .int .i64 hr] 40) := ⟨_, rfl⟩
  rw [← hw5] at K5 ⊢
  rw [← hC] at K5 hRC hGC ⊢
  clear hC hw5
  have hGb : w.heap.size < w5.heap.size := K5.gl
  have hRb : R < w5.heap.size := (K5.rd rfl).lt
  refine wp_region_put [15, 16, 17, 18, 19, 20, 21, 22, 23, 24, 25, 26, 2, 4] (fun L us wx => ∃ u15 u16 u17 u18 u19 u20 u21 u22 u23 u24 u25 u26 u2 u4, us = [u15, u16, u17, u18, u19, u20, u21, u22, u23, u24, u25, u26, u2, u4] ∧ FH w R C w.heap.size W0.heap.size w5.heap.size qz (.slice A1 t.length cap1) (.agg #[.int .i64 hf, .int .i64 ha, .int .i64 hr]) (.int .i64 0) cs t [.int .i64 hf, .int .i64 ha, .int .i64 hr] L wx u15 u16 u17 u18 u19 u20 u21 u22 u23 u24 u25 u26 u2 u4) (by kernel_rfl) (by kernel_rfl) ?_ ?_ ?_
  · exact ⟨_, _, _, _, _, _, _, _, _, _, _, _, _, _, rfl, ⟨⟨qz, Int.le_refl _, by simp [b2n], K5.below (Below.drew (Below.refl _ _)), Nat.le_refl _, fun h => absurd h (by simp), fun h => absurd h (by simp)⟩, fun h => absurd h (by simp), fun _ h => absurd h (by simp), fun _ h => absurd h (by simp), fun _ h => absurd h (by simp), fun _ h => absurd h (by simp), fun _ h => absurd h (by simp), fun _ h => absurd h (by simp), fun _ h => absurd h (by simp), fun _ h => absurd h (by simp), fun _ h => absurd h (by simp), fun _ h => absurd h (by simp), fun _ h => absurd h (by simp), fun _ h => absurd h (by simp), fun h => absurd h (by simp), fun h => absurd h (by simp)⟩⟩
  · repeat' (first | exact Stps.nil | refine Stps.cons ?_ ?_)
    · show Stp _ _ _ _ _ 0 _
      intro L _ w hi hL ⟨us, hus, u15, u16, u17, u18, u19, u20, u21, u22, u23, u24, u25, u26, u2, u4, e, hF⟩ K hK
      subst hus
      have HF := Lib.hid hF
      clear hF
      obtain ⟨q, q1, q2, hk, hz, pa, pb⟩ := HF.out.com
      have hnl : L 14 = false := no_last (fun h => HF.out.cl h 0 (by decide)) hi
      subst e
      simp only [putsA, putsL, List.set_cons_zero, List.set_cons_succ]
      go_simp
      refine hK.out _ _ ⟨[.slice A1 t.length cap1, u16, u17, u18, u19, u20, u21, u22, u23, u24, u25, u26, u2, u4], by kernel_rfl, _, _, _, _, _, _, _, _, _, _, _, _, _, _, rfl, ⟨q, q1, q2, hk, hz, pa, pb⟩, fun h => absurd (show L 14 = true from h) (by simp [hnl]),
    fun _ _ => rfl,
    fun _ hj => HF.out.f1 hnl hj,
    fun _ hj => HF.out.f2 hnl hj,
    fun _ hj => HF.out.f3 hnl hj,
    fun _ hj => HF.out.f4 hnl hj,
    fun _ hj => HF.out.f5 hnl hj,
    fun _ hj => HF.out.f6 hnl hj,
    fun _ hj => HF.out.f7 hnl hj,
    fun _ hj => HF.out.f8 hnl hj,
    fun _ hj => HF.out.f9 hnl hj,
    fun _ hj => HF.out.f10 hnl hj,
    fun _ hj => HF.out.f11 hnl hj,
    fun hj => HF.out.f12 hj,
    fun hj => HF.out.f14 hj⟩
    · show Stp _ _ _ _ _ 1 _
      intro L _ w hi hL ⟨us, hus, u15, u16, u17, u18, u19, u20, u21, u22, u23, u24, u25, u26, u2, u4, e, hF⟩ K hK
      subst hus
      have HF := Lib.hid hF
      clear hF
      obtain ⟨q, q1, q2, hk, hz, pa, pb⟩ := HF.out.com
      have hnl : L 14 = false := no_last (fun h => HF.out.cl h 1 (by decide)) hi
      have cl0 := hk.cx 0 _ rfl
      have cl1 := hk.cx 1 _ rfl
      have cl2 := hk.cx 2 _ rfl
      subst e
      simp only [putsA, putsL, List.set_cons_zero, List.set_cons_succ]
      go_simp
      refine hK.out _ _ ⟨[u15, .agg #[.int .i64 hf, .int .i64 ha, .int .i64 hr], u17, u18, u19, u20, u21, u22, u23, u24, u25, u26, u2, u4], by kernel_rfl, _, _, _, _, _, _, _, _, _, _, _, _, _, _, rfl, ⟨q, q1, q2, hk, hz, pa, pb⟩, fun h => absurd (show L 14 = true from h) (by simp [hnl]),
    fun _ hj => HF.out.f0 hnl hj,
    fun _ _ => rfl,
    fun _ hj => HF.out.f2 hnl hj,
    fun _ hj => HF.out.f3 hnl hj,
    fun _ hj => HF.out.f4 hnl hj,
    fun _ hj => HF.out.f5 hnl hj,
    fun _ hj => HF.out.f6 hnl hj,
    fun _ hj => HF.out.f7 hnl hj,
    fun _ hj => HF.out.f8 hnl hj,
    fun _ hj => HF.out.f9 hnl hj,
    fun _ hj => HF.out.f10 hnl hj,
    fun _ hj => HF.out.f11 hnl hj,
    fun hj => HF.out.f12 hj,
    fun hj => HF.out.f14 hj⟩
    · show Stp _ _ _ _ _ 2 _
      intro L _ w hi hL ⟨us, hus, u15, u16, u17, u18, u19, u20, u21, u22, u23, u24, u25, u26, u2, u4, e, hF⟩ K hK
      subst hus
      have HF := Lib.hid hF
      clear hF
      obtain ⟨q, q1, q2, hk, hz, pa, pb⟩ := HF.out.com
      have hnl : L 14 = false := no_last (fun h => HF.out.cl h 2 (by decide)) hi
      subst e
      simp only [putsA, putsL, List.set_cons_zero, List.set_cons_succ]
      go_simp
      refine hK.out _ _ ⟨[u15, u16, .slice (some ⟨w.heap.size, 0, none⟩) 40 40, u18, u19, u20, u21, u22, u23, u24, u25, u26, u2, u4], by kernel_rfl, _, _, _, _, _, _, _, _, _, _, _, _, _, _, rfl, ⟨q, q1, q2, hk.alloc, by simp; omega, pa, pb⟩, fun h => absurd (show L 14 = true from h) (by simp [hnl]),
    fun _ hj => HF.out.f0 hnl hj,
    fun _ hj => HF.out.f1 hnl hj,
    fun _ _ => IsMk.made hz,
    fun _ hj => HF.out.f3 hnl hj,
    fun _ hj => IsX4.ev (HF.out.f4 hnl hj) (En.alloc),
    fun _ hj => IsN6.ev (HF.out.f5 hnl hj) (En.alloc),
    fun _ hj => HF.out.f6 hnl hj,
    fun _ hj => HF.out.f7 hnl hj,
    fun _ hj => IsNq.ev (HF.out.f8 hnl hj) (En.alloc),
    fun _ hj => HF.out.f9 hnl hj,
    fun _ hj => IsSq.ev (HF.out.f10 hnl hj) (En.alloc),
    fun _ hj => HF.out.f11 hnl hj,
    fun hj => HF.out.f12 hj,
    fun hj => HF.out.f14 hj⟩
    · show Stp _ _ _ _ _ 3 _
      intro L _ w hi hL ⟨us, hus, u15, u16, u17, u18, u19, u20, u21, u22, u23, u24, u25, u26, u2, u4, e, hF⟩ K hK
      subst hus
      have HF := Lib.hid hF
      clear hF
      obtain ⟨q, q1, q2, hk, hz, pa, pb⟩ := HF.out.com
      have hnl : L 14 = false := no_last (fun h => HF.out.cl h 3 (by decide)) hi
      simp [Region.binds] at hL
      have g2 := HF.out.f2 hnl (by simp [hL])
      obtain ⟨g, rfl, k0, k1, k2⟩ := g2
      have hcv := run_convert_bytes_arg (P := Try.prog) w 22 5 Try.underlying22 Try.underlying5 g 0 40 40 (List.replicate 40 0) (List.length_replicate) (fun i hi => by rw [Nat.zero_add, k2 i hi]; rw [List.getD_eq_getElem?_getD, List.getElem?_replicate, if_pos hi]; rfl) 9 Try.underlying9
      subst e
      simp only [putsA, putsL, List.set_cons_zero, List.set_cons_succ]
      change _ = Result.ok (Value.string (zt 40)) w at hcv
      go_simp
      refine hK.out _ _ ⟨[u15, u16, .slice (some ⟨g, 0, none⟩) 40 40, .string (zt 40), u19, u20, u21, u22, u23, u24, u25, u26, u2, u4], by kernel_rfl, _, _, _, _, _, _, _, _, _, _, _, _, _, _, rfl, ⟨q, q1, q2, hk, hz, pa, pb⟩, fun h => absurd (show L 14 = true from h) (by simp [hnl]),
    fun _ hj => HF.out.f0 hnl hj,
    fun _ hj => HF.out.f1 hnl hj,
    fun _ hj => HF.out.f2 hnl hj,
    fun _ _ => ⟨_, rfl, by rw [zt_size]; decide⟩,
    fun _ hj => HF.out.f4 hnl hj,
    fun _ hj => HF.out.f5 hnl hj,
    fun _ hj => HF.out.f6 hnl hj,
    fun _ hj => HF.out.f7 hnl hj,
    fun _ hj => HF.out.f8 hnl hj,
    fun _ hj => HF.out.f9 hnl hj,
    fun _ hj => HF.out.f10 hnl hj,
    fun _ hj => HF.out.f11 hnl hj,
    fun hj => HF.out.f12 hj,
    fun hj => HF.out.f14 hj⟩
    · show Stp _ _ _ _ _ 4 _
      intro L _ w hi hL ⟨us, hus, u15, u16, u17, u18, u19, u20, u21, u22, u23, u24, u25, u26, u2, u4, e, hF⟩ K hK
      subst hus
      have HF := Lib.hid hF
      clear hF
      obtain ⟨q, q1, q2, hk, hz, pa, pb⟩ := HF.out.com
      have hnl : L 14 = false := no_last (fun h => HF.out.cl h 4 (by decide)) hi
      simp [Region.binds] at hL
      have g3 := HF.out.f3 hnl (by simp [hL])
      obtain ⟨s, rfl, hs⟩ := g3
      subst e
      simp only [putsA, putsL, List.set_cons_zero, List.set_cons_succ]
      go_simp
      refine hK.out _ _ ⟨[u15, u16, u17, .string s, .slice (some ⟨w.heap.size, 0, none⟩) 4 4, u20, u21, u22, u23, u24, u25, u26, u2, u4], by kernel_rfl, _, _, _, _, _, _, _, _, _, _, _, _, _, _, rfl, ⟨q, q1, q2, hk.alloc, by simp; omega, pa, pb⟩, fun h => absurd (show L 14 = true from h) (by simp [hnl]),
    fun _ hj => HF.out.f0 hnl hj,
    fun _ hj => HF.out.f1 hnl hj,
    fun _ hj => IsMk.ev (HF.out.f2 hnl hj) (En.alloc),
    fun _ hj => HF.out.f3 hnl hj,
    fun _ _ => IsX4.made hz (by decide) (by decide) (by decide) hs,
    fun _ hj => IsN6.ev (HF.out.f5 hnl hj) (En.alloc),
    fun _ hj => HF.out.f6 hnl hj,
    fun _ hj => HF.out.f7 hnl hj,
    fun _ hj => IsNq.ev (HF.out.f8 hnl hj) (En.alloc),
    fun _ hj => HF.out.f9 hnl hj,
    fun _ hj => IsSq.ev (HF.out.f10 hnl hj) (En.alloc),
    fun _ hj => HF.out.f11 hnl hj,
    fun hj => HF.out.f12 hj,
    fun hj => HF.out.f14 hj⟩
    · show Stp _ _ _ _ _ 5 _
      intro L _ w hi hL ⟨us, hus, u15, u16, u17, u18, u19, u20, u21, u22, u23, u24, u25, u26, u2, u4, e, hF⟩ K hK
      subst hus
      have HF := Lib.hid hF
      clear hF
      obtain ⟨q, q1, q2, hk, hz, pa, pb⟩ := HF.out.com
      have hnl : L 14 = false := no_last (fun h => HF.out.cl h 5 (by decide)) hi
      subst e
      simp only [putsA, putsL, List.set_cons_zero, List.set_cons_succ]
      go_simp
      refine hK.out _ _ ⟨[u15, u16, u17, u18, u19, .slice (some ⟨w.heap.size, 0, none⟩) 6 6, u21, u22, u23, u24, u25, u26, u2, u4], by kernel_rfl, _, _, _, _, _, _, _, _, _, _, _, _, _, _, rfl, ⟨q, q1, q2, hk.alloc, by simp; omega, pa, pb⟩, fun h => absurd (show L 14 = true from h) (by simp [hnl]),
    fun _ hj => HF.out.f0 hnl hj,
    fun _ hj => HF.out.f1 hnl hj,
    fun _ hj => IsMk.ev (HF.out.f2 hnl hj) (En.alloc),
    fun _ hj => HF.out.f3 hnl hj,
    fun _ hj => IsX4.ev (HF.out.f4 hnl hj) (En.alloc),
    fun _ _ => IsN6.made hz,
    fun _ hj => HF.out.f6 hnl hj,
    fun _ hj => HF.out.f7 hnl hj,
    fun _ hj => IsNq.ev (HF.out.f8 hnl hj) (En.alloc),
    fun _ hj => HF.out.f9 hnl hj,
    fun _ hj => IsSq.ev (HF.out.f10 hnl hj) (En.alloc),
    fun _ hj => HF.out.f11 hnl hj,
    fun hj => HF.out.f12 hj,
    fun hj => HF.out.f14 hj⟩
    · show Stp _ _ _ _ _ 6 _
      intro L _ w hi hL ⟨us, hus, u15, u16, u17, u18, u19, u20, u21, u22, u23, u24, u25, u26, u2, u4, e, hF⟩ K hK
      subst hus
      have HF := Lib.hid hF
      clear hF
      obtain ⟨q, q1, q2, hk, hz, pa, pb⟩ := HF.out.com
      have hnl : L 14 = false := no_last (fun h => HF.out.cl h 6 (by decide)) hi
      subst e
      simp only [putsA, putsL, List.set_cons_zero, List.set_cons_succ]
      go_simp
      refine hK.out _ _ ⟨[u15, u16, u17, u18, u19, u20, .pointer (some ⟨R, 0, none⟩), u22, u23, u24, u25, u26, u2, u4], by kernel_rfl, _, _, _, _, _, _, _, _, _, _, _, _, _, _, rfl, ⟨q, q1, q2, hk, hz, pa, pb⟩, fun h => absurd (show L 14 = true from h) (by simp [hnl]),
    fun _ hj => HF.out.f0 hnl hj,
    fun _ hj => HF.out.f1 hnl hj,
    fun _ hj => HF.out.f2 hnl hj,
    fun _ hj => HF.out.f3 hnl hj,
    fun _ hj => HF.out.f4 hnl hj,
    fun _ hj => HF.out.f5 hnl hj,
    fun _ _ => rfl,
    fun _ hj => HF.out.f7 hnl hj,
    fun _ hj => HF.out.f8 hnl hj,
    fun _ hj => HF.out.f9 hnl hj,
    fun _ hj => HF.out.f10 hnl hj,
    fun _ hj => HF.out.f11 hnl hj,
    fun hj => HF.out.f12 hj,
    fun hj => HF.out.f14 hj⟩
    · show Stp _ _ _ _ _ 7 _
      intro L _ w hi hL ⟨us, hus, u15, u16, u17, u18, u19, u20, u21, u22, u23, u24, u25, u26, u2, u4, e, hF⟩ K hK
      subst hus
      have HF := Lib.hid hF
      clear hF
      obtain ⟨q, q1, q2, hk, hz, pa, pb⟩ := HF.out.com
      have hnl : L 14 = false := no_last (fun h => HF.out.cl h 7 (by decide)) hi
      simp [Region.binds] at hL
      have g6 := HF.out.f6 hnl (by simp [hL])
      obtain rfl := g6
      have hst : L 13 = false := Bool.eq_false_iff.2 (fun h => by rw [pb h] at hi; cases hi)
      have q5 : q ≤ qz := by rw [show L 7 = false from hi] at q2; simpa [b2n] using q2
      have hrd := hk.rd hst
      subst e
      simp only [putsA, putsL, List.set_cons_zero, List.set_cons_succ]
      go_simp
      refine (pick_any R q 6 _ hrd (by omega)).mono ?_
      rintro e w' ⟨v, d', rfl, h0, h1, h2, rfl⟩
      replace h1 := h1 (by omega)
      go_simp
      refine hK.out _ _ ⟨[u15, u16, u17, u18, u19, u20, .pointer (some ⟨R, 0, none⟩), .int .i64 v, u23, u24, u25, u26, u2, u4], by kernel_rfl, _, _, _, _, _, _, _, _, _, _, _, _, _, _, rfl, ⟨q + 1, by omega, by simp [b2n]; omega, hk.pick (by omega) hRB hR0 hRC hRG, by simp; omega, fun _ => by simp, fun _ => by simp⟩, fun h => absurd (show L 14 = true from h) (by simp [hnl]),
    fun _ hj => HF.out.f0 hnl hj,
    fun _ hj => HF.out.f1 hnl hj,
    fun _ hj => IsMk.ev (HF.out.f2 hnl hj) (En.pick hRb),
    fun _ hj => HF.out.f3 hnl hj,
    fun _ hj => IsX4.ev (HF.out.f4 hnl hj) (En.pick hRb),
    fun _ hj => IsN6.ev (HF.out.f5 hnl hj) (En.pick hRb),
    fun _ hj => HF.out.f6 hnl hj,
    fun _ _ => ⟨_, rfl, h0, h1⟩,
    fun _ hj => IsNq.ev (HF.out.f8 hnl hj) (En.pick hRb),
    fun _ hj => HF.out.f9 hnl hj,
    fun _ hj => IsSq.ev (HF.out.f10 hnl hj) (En.pick hRb),
    fun _ hj => HF.out.f11 hnl hj,
    fun hj => HF.out.f12 hj,
    fun hj => HF.out.f14 hj⟩
    · show Stp _ _ _ _ _ 8 _
      intro L _ w hi hL ⟨us, hus, u15, u16, u17, u18, u19, u20, u21, u22, u23, u24, u25, u26, u2, u4, e, hF⟩ K hK
      subst hus
      have HF := Lib.hid hF
      clear hF
      obtain ⟨q, q1, q2, hk, hz, pa, pb⟩ := HF.out.com
      have hnl : L 14 = false := no_last (fun h => HF.out.cl h 8 (by decide)) hi
      simp [Region.binds] at hL
      have g5 := HF.out.f5 hnl (by simp [hL])
      have g7 := HF.out.f7 hnl (by simp [hL])
      obtain ⟨g, rfl, k0, k1, k2⟩ := g5
      obtain ⟨v, rfl, v0, v1⟩ := g7
      subst e
      simp only [putsA, putsL, List.set_cons_zero, List.set_cons_succ]
      go_simp
      refine hK.out _ _ ⟨[u15, u16, u17, u18, u19, .slice (some ⟨g, 0, none⟩) 6 6, u21, .int .i64 v, .pointer (some ⟨g, v.toNat, none⟩), u24, u25, u26, u2, u4], by kernel_rfl, _, _, _, _, _, _, _, _, _, _, _, _, _, _, rfl, ⟨q, q1, q2, hk, hz, pa, pb⟩, fun h => absurd (show L 14 = true from h) (by simp [hnl]),
    fun _ hj => HF.out.f0 hnl hj,
    fun _ hj => HF.out.f1 hnl hj,
    fun _ hj => HF.out.f2 hnl hj,
    fun _ hj => HF.out.f3 hnl hj,
    fun _ hj => HF.out.f4 hnl hj,
    fun _ hj => HF.out.f5 hnl hj,
    fun _ hj => HF.out.f6 hnl hj,
    fun _ hj => HF.out.f7 hnl hj,
    fun _ _ => IsNq.of k0 k1 k2 v0 v1,
    fun _ hj => HF.out.f9 hnl hj,
    fun _ hj => HF.out.f10 hnl hj,
    fun _ hj => HF.out.f11 hnl hj,
    fun hj => HF.out.f12 hj,
    fun hj => HF.out.f14 hj⟩
    · show Stp _ _ _ _ _ 9 _
      intro L _ w hi hL ⟨us, hus, u15, u16, u17, u18, u19, u20, u21, u22, u23, u24, u25, u26, u2, u4, e, hF⟩ K hK
      subst hus
      have HF := Lib.hid hF
      clear hF
      obtain ⟨q, q1, q2, hk, hz, pa, pb⟩ := HF.out.com
      have hnl : L 14 = false := no_last (fun h => HF.out.cl h 9 (by decide)) hi
      simp [Region.binds] at hL
      have g8 := HF.out.f8 hnl (by simp [hL])
      obtain ⟨g, k, rfl, k0, k1, x, k3, x0, x1⟩ := g8
      subst e
      simp only [putsA, putsL, List.set_cons_zero, List.set_cons_succ]
      go_simp
      refine hK.out _ _ ⟨[u15, u16, u17, u18, u19, u20, u21, u22, .pointer (some ⟨g, k, none⟩), .int .i64 x, u25, u26, u2, u4], by kernel_rfl, _, _, _, _, _, _, _, _, _, _, _, _, _, _, rfl, ⟨q, q1, q2, hk, hz, pa, pb⟩, fun h => absurd (show L 14 = true from h) (by simp [hnl]),
    fun _ hj => HF.out.f0 hnl hj,
    fun _ hj => HF.out.f1 hnl hj,
    fun _ hj => HF.out.f2 hnl hj,
    fun _ hj => HF.out.f3 hnl hj,
    fun _ hj => HF.out.f4 hnl hj,
    fun _ hj => HF.out.f5 hnl hj,
    fun _ hj => HF.out.f6 hnl hj,
    fun _ hj => HF.out.f7 hnl hj,
    fun _ hj => HF.out.f8 hnl hj,
    fun _ _ => ⟨_, rfl, x0, x1⟩,
    fun _ hj => HF.out.f10 hnl hj,
    fun _ hj => HF.out.f11 hnl hj,
    fun hj => HF.out.f12 hj,
    fun hj => HF.out.f14 hj⟩
    · show Stp _ _ _ _ _ 10 _
      intro L _ w hi hL ⟨us, hus, u15, u16, u17, u18, u19, u20, u21, u22, u23, u24, u25, u26, u2, u4, e, hF⟩ K hK
      subst hus
      have HF := Lib.hid hF
      clear hF
      obtain ⟨q, q1, q2, hk, hz, pa, pb⟩ := HF.out.com
      have hnl : L 14 = false := no_last (fun h => HF.out.cl h 10 (by decide)) hi
      simp [Region.binds] at hL
      have g4 := HF.out.f4 hnl (by simp [hL])
      have g9 := HF.out.f9 hnl (by simp [hL])
      obtain ⟨g, rfl, k0, k1, k2⟩ := g4
      obtain ⟨x, rfl, v0, v1⟩ := g9
      subst e
      simp only [putsA, putsL, List.set_cons_zero, List.set_cons_succ]
      go_simp
      refine hK.out _ _ ⟨[u15, u16, u17, u18, .slice (some ⟨g, 0, none⟩) 4 4, u20, u21, u22, u23, .int .i64 x, .pointer (some ⟨g, x.toNat, none⟩), u26, u2, u4], by kernel_rfl, _, _, _, _, _, _, _, _, _, _, _, _, _, _, rfl, ⟨q, q1, q2, hk, hz, pa, pb⟩, fun h => absurd (show L 14 = true from h) (by simp [hnl]),
    fun _ hj => HF.out.f0 hnl hj,
    fun _ hj => HF.out.f1 hnl hj,
    fun _ hj => HF.out.f2 hnl hj,
    fun _ hj => HF.out.f3 hnl hj,
    fun _ hj => HF.out.f4 hnl hj,
    fun _ hj => HF.out.f5 hnl hj,
    fun _ hj => HF.out.f6 hnl hj,
    fun _ hj => HF.out.f7 hnl hj,
    fun _ hj => HF.out.f8 hnl hj,
    fun _ hj => HF.out.f9 hnl hj,
    fun _ _ => IsSq.of k0 k1 k2 v0 v1,
    fun _ hj => HF.out.f11 hnl hj,
    fun hj => HF.out.f12 hj,
    fun hj => HF.out.f14 hj⟩
    · show Stp _ _ _ _ _ 11 _
      intro L _ w hi hL ⟨us, hus, u15, u16, u17, u18, u19, u20, u21, u22, u23, u24, u25, u26, u2, u4, e, hF⟩ K hK
      subst hus
      have HF := Lib.hid hF
      clear hF
      obtain ⟨q, q1, q2, hk, hz, pa, pb⟩ := HF.out.com
      have hnl : L 14 = false := no_last (fun h => HF.out.cl h 11 (by decide)) hi
      simp [Region.binds] at hL
      have g10 := HF.out.f10 hnl (by simp [hL])
      obtain ⟨g, k, rfl, k0, k1, s, k3, k4⟩ := g10
      subst e
      simp only [putsA, putsL, List.set_cons_zero, List.set_cons_succ]
      go_simp
      refine hK.out _ _ ⟨[u15, u16, u17, u18, u19, u20, u21, u22, u23, u24, .pointer (some ⟨g, k, none⟩), .string s, u2, u4], by kernel_rfl, _, _, _, _, _, _, _, _, _, _, _, _, _, _, rfl, ⟨q, q1, q2, hk, hz, pa, pb⟩, fun h => absurd (show L 14 = true from h) (by simp [hnl]),
    fun _ hj => HF.out.f0 hnl hj,
    fun _ hj => HF.out.f1 hnl hj,
    fun _ hj => HF.out.f2 hnl hj,
    fun _ hj => HF.out.f3 hnl hj,
    fun _ hj => HF.out.f4 hnl hj,
    fun _ hj => HF.out.f5 hnl hj,
    fun _ hj => HF.out.f6 hnl hj,
    fun _ hj => HF.out.f7 hnl hj,
    fun _ hj => HF.out.f8 hnl hj,
    fun _ hj => HF.out.f9 hnl hj,
    fun _ hj => HF.out.f10 hnl hj,
    fun _ _ => ⟨_, rfl, k4⟩,
    fun hj => HF.out.f12 hj,
    fun hj => HF.out.f14 hj⟩
    · show Stp _ _ _ _ _ 12 _
      intro L _ w hi hL ⟨us, hus, u15, u16, u17, u18, u19, u20, u21, u22, u23, u24, u25, u26, u2, u4, e, hF⟩ K hK
      subst hus
      have HF := Lib.hid hF
      clear hF
      obtain ⟨q, q1, q2, hk, hz, pa, pb⟩ := HF.out.com
      have hnl : L 14 = false := no_last (fun h => HF.out.cl h 12 (by decide)) hi
      simp [Region.binds] at hL
      have g0 := HF.out.f0 hnl (by simp [hL])
      obtain rfl := g0
      subst e
      simp only [putsA, putsL, List.set_cons_zero, List.set_cons_succ]
      go_simp
      refine hK.out _ _ ⟨[.slice A1 t.length cap1, u16, u17, u18, u19, u20, u21, u22, u23, u24, u25, u26, .slice A1 t.length cap1, u4], by kernel_rfl, _, _, _, _, _, _, _, _, _, _, _, _, _, _, rfl, ⟨q, q1, q2, hk, hz, fun _ => (show L 7 = true from by simp [hL]), pb⟩, fun h => absurd (show L 14 = true from h) (by simp [hnl]),
    fun _ hj => HF.out.f0 hnl hj,
    fun _ hj => HF.out.f1 hnl hj,
    fun _ hj => HF.out.f2 hnl hj,
    fun _ hj => HF.out.f3 hnl hj,
    fun _ hj => HF.out.f4 hnl hj,
    fun _ hj => HF.out.f5 hnl hj,
    fun _ hj => HF.out.f6 hnl hj,
    fun _ hj => HF.out.f7 hnl hj,
    fun _ hj => HF.out.f8 hnl hj,
    fun _ hj => HF.out.f9 hnl hj,
    fun _ hj => HF.out.f10 hnl hj,
    fun _ hj => HF.out.f11 hnl hj,
    fun _ => rfl,
    fun hj => HF.out.f14 hj⟩
    · show Stp _ _ _ _ _ 13 _
      intro L _ w hi hL ⟨us, hus, u15, u16, u17, u18, u19, u20, u21, u22, u23, u24, u25, u26, u2, u4, e, hF⟩ K hK
      subst hus
      have HF := Lib.hid hF
      clear hF
      obtain ⟨q, q1, q2, hk, hz, pa, pb⟩ := HF.out.com
      have hnl : L 14 = false := no_last (fun h => HF.out.cl h 13 (by decide)) hi
      simp [Region.binds] at hL
      have g1 := HF.out.f1 hnl (by simp [hL])
      obtain rfl := g1
      obtain ⟨y0, e0, _⟩ := hk.gx 0 _ rfl
      have f0 := hk.gf 0
      obtain ⟨y1, e1, _⟩ := hk.gx 1 _ rfl
      have f1 := hk.gf 1
      obtain ⟨y2, e2, _⟩ := hk.gx 2 _ rfl
      have f2 := hk.gf 2
      subst e
      simp only [putsA, putsL, List.set_cons_zero, List.set_cons_succ]
      go_simp
      refine hK.out _ _ ⟨[u15, .agg #[.int .i64 hf, .int .i64 ha, .int .i64 hr], u17, u18, u19, u20, u21, u22, u23, u24, u25, u26, u2, u4], by kernel_rfl, _, _, _, _, _, _, _, _, _, _, _, _, _, _, rfl, ⟨q, q1, q2, hk.store3 hGB hG0 hGC, by simp; omega, pa, fun _ => pa (by simp [hL])⟩, fun h => absurd (show L 14 = true from h) (by simp [hnl]),
    fun _ hj => HF.out.f0 hnl hj,
    fun _ hj => HF.out.f1 hnl hj,
    fun _ hj => IsMk.ev (HF.out.f2 hnl hj) ((En.trans (En.trans (En.set hGb) (En.set hGb)) (En.set hGb))),
    fun _ hj => HF.out.f3 hnl hj,
    fun _ hj => IsX4.ev (HF.out.f4 hnl hj) ((En.trans (En.trans (En.set hGb) (En.set hGb)) (En.set hGb))),
    fun _ hj => IsN6.ev (HF.out.f5 hnl hj) ((En.trans (En.trans (En.set hGb) (En.set hGb)) (En.set hGb))),
    fun _ hj => HF.out.f6 hnl hj,
    fun _ hj => HF.out.f7 hnl hj,
    fun _ hj => IsNq.ev (HF.out.f8 hnl hj) ((En.trans (En.trans (En.set hGb) (En.set hGb)) (En.set hGb))),
    fun _ hj => HF.out.f9 hnl hj,
    fun _ hj => IsSq.ev (HF.out.f10 hnl hj) ((En.trans (En.trans (En.set hGb) (En.set hGb)) (En.set hGb))),
    fun _ hj => HF.out.f11 hnl hj,
    fun hj => HF.out.f12 hj,
    fun hj => HF.out.f14 hj⟩
    · show Stp _ _ _ _ _ 14 _
      intro L _ w hi hL ⟨us, hus, u15, u16, u17, u18, u19, u20, u21, u22, u23, u24, u25, u26, u2, u4, e, hF⟩ K hK
      subst hus
      have HF := Lib.hid hF
      clear hF
      obtain ⟨q, q1, q2, hk, hz, pa, pb⟩ := HF.out.com
      simp [Region.binds] at hL
      have hall : ∀ k, k < 14 → L k = true := by
        intro k hk
        have hk' : k = 0 ∨ k = 1 ∨ k = 2 ∨ k = 3 ∨ k = 4 ∨ k = 5 ∨ k = 6 ∨ k = 7 ∨ k = 8 ∨ k = 9 ∨ k = 10 ∨ k = 11 ∨ k = 12 ∨ k = 13 := by omega
        rcases hk' with h | h | h | h | h | h | h | h | h | h | h | h | h | h
        all_goals (rw [h]; simp only [hL])
      have g11 := HF.out.f11 (by simpa using hi) (by simp [hL])
      obtain ⟨s, rfl, hs⟩ := g11
      subst e
      simp only [putsA, putsL, List.set_cons_zero, List.set_cons_succ]
      go_simp
      refine hK.out _ _ ⟨[u15, u16, u17, u18, u19, u20, u21, u22, u23, u24, u25, .string s, u2, .string s], by kernel_rfl, _, _, _, _, _, _, _, _, _, _, _, _, _, _, rfl, ⟨q, q1, q2, hk, hz, pa, pb⟩, fun _ k hk => upd_of (hall k hk),
    fun h => absurd h (by simp),
    fun h => absurd h (by simp),
    fun h => absurd h (by simp),
    fun h => absurd h (by simp),
    fun h => absurd h (by simp),
    fun h => absurd h (by simp),
    fun h => absurd h (by simp),
    fun h => absurd h (by simp),
    fun h => absurd h (by simp),
    fun h => absurd h (by simp),
    fun h => absurd h (by simp),
    fun h => absurd h (by simp),
    fun hj => HF.out.f12 hj,
    fun _ => ⟨_, rfl, hs⟩⟩
  · intro L us wx hL ⟨u15, u16, u17, u18, u19, u20, u21, u22, u23, u24, u25, u26, u2, u4, hus, hF⟩
    subst hus
    obtain ⟨q, r1, r2, hk, _, _, _⟩ := hF.com
    obtain rfl := hF.f12 (hL 12 (by decide))
    obtain ⟨s, rfl, hs⟩ := hF.f14 (hL 14 (by decide))
    rw [hL 13 (by decide)] at hk
    obtain ⟨_, y0, e0⟩ := hk.gx 0 _ rfl
    obtain ⟨_, y1, e1⟩ := hk.gx 1 _ rfl
    obtain ⟨_, y2, e2⟩ := hk.gx 2 _ rfl
    rw [e0 rfl] at y0
    rw [e1 rfl] at y1
    rw [e2 rfl] at y2
    have HK := Lib.hid hk
    clear hF hk e0 e1 e2
    simp only [putsA, putsL, List.set_cons_zero, List.set_cons_succ]
    go_wp2
    refine bodyPost_ret (v := .tuple #[.slice A1 t.length cap1, .agg #[.int .i64 hf, .int .i64 ha, .int .i64 hr], .string s]) ?_ rfl ?_
    · simp only [results, Try.results32]
      go_simp
    · exact ⟨_, t, _, _, _, _, rfl, ⟨cs, TreeC.mono HK.out.tr (by omega)⟩, hn1, hn2, ka0, ka1, hs, HK.out.be⟩
end Go.Proofs.Ythcmecgmidopoaa
