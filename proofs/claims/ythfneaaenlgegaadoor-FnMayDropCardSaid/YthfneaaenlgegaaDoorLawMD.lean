/- The drawn law on MayDrop: the walk. -/
import Derived.Test.YthfneaaenlgegaaDoorDrawG
import Derived.Test.YthfneaaenlgegaaDoorMayDropS
set_option linter.unusedSimpArgs false
set_option linter.unusedVariables false
set_option linter.unusedSectionVars false
namespace Go.Proofs.YthfneaaenlgegaaDoor
open Go.RowKit

theorem drop_root (t : List Nd) (a b c d : Int) (full : Bool) : dropOf t a b c d [47] full = 1 := by
  have h : upF t a b c d [47] = (-1, 1) := by unfold upF; rw [if_pos (by rfl)]
  unfold dropOf
  rw [h]; rfl
theorem up_no {t : List Nd} {a b c d : Int} {s : List UInt8} (h : ¬ (upF t a b c d s).2 = 0) : 1 ≤ (upF t a b c d s).2 ∧ (upF t a b c d s).2 ≤ 4 := by
  have hno := @find_no t a b c d (aboveF s)
  unfold upF at h ⊢
  by_cases h1 : aboveOk s = false
  · rw [if_pos h1]; decide
  · rw [if_neg h1] at h ⊢
    by_cases h2 : ¬ (findF t a b c d (aboveF s)).2 = 0
    · rw [if_pos h2]; exact (hno h2).2
    · rw [if_neg h2] at h ⊢
      by_cases h3 : (kth t (findF t a b c d (aboveF s)).1.toNat).fo = false
      · rw [if_pos h3]; decide
      · rw [if_neg h3] at h ⊢
        by_cases h4 : mayF a b c d (kth t (findF t a b c d (aboveF s)).1.toNat).ow (kth t (findF t a b c d (aboveF s)).1.toNat).gr (kth t (findF t a b c d (aboveF s)).1.toNat).mo 3 = false
        · rw [if_pos h4]; decide
        · rw [if_neg h4] at h; exact absurd rfl h
theorem drop_up {t : List Nd} {a b c d : Int} {s : List UInt8} {full : Bool} (h : dropOf t a b c d s full = 0 ∨ dropOf t a b c d s full = 7) : (upF t a b c d s).2 = 0 ∧ 0 ≤ kidF (kth t (upF t a b c d s).1.toNat) (lastF s) ∧ stickyB b (kth t (upF t a b c d s).1.toNat) (kth t (kidF (kth t (upF t a b c d s).1.toNat) (lastF s)).toNat) = false ∧ (dropOf t a b c d s full = 0 → full = false → (kth t (kidF (kth t (upF t a b c d s).1.toNat) (lastF s)).toNat).ns.length = 0) := by
  by_cases h1 : (upF t a b c d s).2 = 0
  · unfold dropOf at h ⊢
    rw [if_neg (fun x => x h1)] at h ⊢
    by_cases h2 : kidF (kth t (upF t a b c d s).1.toNat) (lastF s) < 0
    · rw [if_pos h2] at h; rcases h with h | h <;> cases h
    · rw [if_neg h2] at h ⊢
      by_cases h3 : stickyB b (kth t (upF t a b c d s).1.toNat) (kth t (kidF (kth t (upF t a b c d s).1.toNat) (lastF s)).toNat) = true
      · rw [if_pos h3] at h; rcases h with h | h <;> cases h
      · rw [if_neg h3] at h ⊢
        refine ⟨h1, by omega, by simpa using h3, fun h4 h5 => ?_⟩
        subst h5
        by_cases h6 : (!false && !((kth t (kidF (kth t (upF t a b c d s).1.toNat) (lastF s)).toNat).ns.length == 0)) = true
        · rw [if_pos h6] at h4; cases h4
        · simpa using h6
  · exfalso
    have h4 := up_no h1
    unfold dropOf at h
    rw [if_pos h1] at h
    omega
theorem drop_find {t : List Nd} {a b c d : Int} {s : List UInt8} (h : (upF t a b c d s).2 = 0) (hk : 0 ≤ kidF (kth t (upF t a b c d s).1.toNat) (lastF s)) : findF t a b c d s = (kidF (kth t (upF t a b c d s).1.toNat) (lastF s), 0) ∧ 1 ≤ kidF (kth t (upF t a b c d s).1.toNat) (lastF s) ∧ kidF (kth t (upF t a b c d s).1.toNat) (lastF s) < (t.length : Int) := by
  obtain ⟨u1, u2, u3, u4, u5⟩ := up_yes h
  obtain ⟨g1, g2, g3, g4, g5⟩ := findF_range u2
  rw [u3] at hk ⊢
  have hr := kid_range g1 (show (findF t a b c d (aboveF s)).1.toNat < t.length by omega) (lastF s)
  refine ⟨?_, by omega, by omega⟩
  rw [find_above u1, if_pos u2, findL_one, if_neg (by rw [u4]; simp), if_neg (by rw [show runF a b c d (kth t (findF t a b c d (aboveF s)).1.toNat) = true from may_run u5]; simp), if_neg (by omega)]
set_option maxRecDepth 100000 in
set_option maxHeartbeats 8000000 in
theorem walkFnMayDrop (a : Option Addr) (len cap : Nat) (zs : List Int) (w : World) (hsh : w.ShapedOpen Tryd.prog) (hrow : IsRow .u8 w a len cap zs) :
    Calls Tryd.prog 10 #[.slice a len cap] w fun e w' => e = .returned (.bool true) ∧ Below w.heap.size w w' := by
  obtain ⟨hl1, hl2⟩ := hrow.len_le
  unfold maxLen at hl2
  by_cases hbig : (1048576 : Int) < (len : Int)
  · go_enter Tryd.func10, Tryd.ntmps10
    go_wp2
    go_ret
    exact ⟨rfl, Below.refl _ _⟩
  · have hm0 := maxL_of hsh
    go_enter Tryd.func10, Tryd.ntmps10
    go_wp2_with fail
    refine (drawMD_any a len cap zs _ hrow).mono ?_
    rintro e w1 ⟨v, t, a0, b0, c0, d0, S, rfl, hR0, hn, hk, hs, b1⟩
    have hR := hR0.r
    clear hR0
    have HM := Lib.hid (hm0.below b1)
    obtain ⟨A, cp, rfl⟩ := hR.shape
    have hcp := hR.caps
    have HR := Lib.hid hR
    have B1 := Lib.hid b1
    have hI := fun w hm h => dropI_of (.slice A t.length cp) t a0 b0 c0 d0 S w hm h (by omega) (by omega) (by omega)
    have hS := fun w h => dropS_of (.slice A t.length cp) t a0 b0 c0 d0 S w h (by omega) (by omega) (by omega)
    have hJ := fun w hm h => findI_of (.slice A t.length cp) t a0 b0 c0 d0 S w hm h (by omega) (by omega) (by omega)
    have hK := fun w hm h => dropI_of (.slice A t.length cp) t a0 b0 c0 d0 ⟨#[47]⟩ w hm h (by omega) (by omega) (by decide)
    rw [show (⟨#[47]⟩ : ByteArray).data.toList = [47] from rfl, drop_root] at hK
    generalize S.data.toList = s at hI hS hJ
    have hup := @drop_up t a0 b0 c0 d0 s false
    have hfd := @drop_find t a0 b0 c0 d0 s
    generalize dropOf t a0 b0 c0 d0 s false = f at hI hS hup
    have HI := Lib.hid hI
    have HS := Lib.hid hS
    have HK := Lib.hid hK
    clear hR b1 hm0 hI hS hK hs
    go_wp2_with fail
    refine (HI.out _ (HM.out.below (by (repeat (first | exact Below.refl _ _ | exact Hbl.out | refine Below.ext ?_ (by first | omega | (simp; omega) | simp) | refine Below.setCell ?_ (by first | omega | (simp; omega) | simp) _ | refine Below.alloc ?_ (by first | omega | (simp; omega) | simp) _ | refine Below.drew ?_ | refine below_drewN ?_ _ | refine Below.step (by assumption) (by first | omega | (simp; omega) | simp) ?_)))) (HR.out.below (by (repeat (first | exact Below.refl _ _ | exact Hbl.out | refine Below.ext ?_ (by first | omega | (simp; omega) | simp) | refine Below.setCell ?_ (by first | omega | (simp; omega) | simp) _ | refine Below.alloc ?_ (by first | omega | (simp; omega) | simp) _ | refine Below.drew ?_ | refine below_drewN ?_ _ | refine Below.step (by assumption) (by first | omega | (simp; omega) | simp) ?_))))).mono ?_
    rintro e w2 ⟨rfl, b2⟩
    have p0 : w2.cell? ⟨w1.heap.size, 0, none⟩ = some (.int .i64 a0) := (b2.cell (p := ⟨w1.heap.size, 0, none⟩) (by first | (simp; done) | (simp; omega) | omega)).trans (by first | assumption | go_simp)
    have p1 : w2.cell? ⟨w1.heap.size, 1, none⟩ = some (.int .i64 b0) := (b2.cell (p := ⟨w1.heap.size, 1, none⟩) (by first | (simp; done) | (simp; omega) | omega)).trans (by first | assumption | go_simp)
    have p2 : w2.cell? ⟨w1.heap.size, 2, none⟩ = some (.int .i64 c0) := (b2.cell (p := ⟨w1.heap.size, 2, none⟩) (by first | (simp; done) | (simp; omega) | omega)).trans (by first | assumption | go_simp)
    have p3 : w2.cell? ⟨w1.heap.size, 3, none⟩ = some (.int .i64 d0) := (b2.cell (p := ⟨w1.heap.size, 3, none⟩) (by first | (simp; done) | (simp; omega) | omega)).trans (by first | assumption | go_simp)
    have hz2 : w1.heap.size < w2.heap.size := by have := b2.size; simp at this; omega
    have B2 := Lib.hid (Below.step b2 (by simp) (show Below w1.heap.size w1 _ from (by (repeat (first | exact Below.refl _ _ | exact Hbl.out | refine Below.ext ?_ (by first | omega | (simp; omega) | simp) | refine Below.setCell ?_ (by first | omega | (simp; omega) | simp) _ | refine Below.alloc ?_ (by first | omega | (simp; omega) | simp) _ | refine Below.drew ?_ | refine below_drewN ?_ _ | refine Below.step (by assumption) (by first | omega | (simp; omega) | simp) ?_)))))
    clear b2
    go_wp2_with fail
    refine (HS.out _ (HR.out.below B2.out)).mono ?_
    rintro e w3 ⟨rfl, b3⟩
    have q0 : w3.cell? ⟨w1.heap.size, 0, none⟩ = some (.int .i64 a0) := (b3.cell (p := ⟨w1.heap.size, 0, none⟩) (by first | (simp; done) | (simp; omega) | omega)).trans (by first | assumption | go_simp)
    have q1 : w3.cell? ⟨w1.heap.size, 1, none⟩ = some (.int .i64 b0) := (b3.cell (p := ⟨w1.heap.size, 1, none⟩) (by first | (simp; done) | (simp; omega) | omega)).trans (by first | assumption | go_simp)
    have q2 : w3.cell? ⟨w1.heap.size, 2, none⟩ = some (.int .i64 c0) := (b3.cell (p := ⟨w1.heap.size, 2, none⟩) (by first | (simp; done) | (simp; omega) | omega)).trans (by first | assumption | go_simp)
    have q3 : w3.cell? ⟨w1.heap.size, 3, none⟩ = some (.int .i64 d0) := (b3.cell (p := ⟨w1.heap.size, 3, none⟩) (by first | (simp; done) | (simp; omega) | omega)).trans (by first | assumption | go_simp)
    have hz3 : w1.heap.size < w3.heap.size := by have := b3.size; omega
    have B3 := Lib.hid (Below.step b3 B2.out.size B2.out)
    have B3w := Lib.hid (Below.step B3.out B1.out.size B1.out)
    clear b3 B2 HI HS p0 p1 p2 p3
    by_cases hf : f = 0
    · subst hf
      obtain ⟨u1, u2, _, u4⟩ := hup (.inl rfl)
      obtain ⟨e1, k1, k2⟩ := hfd u1 u2
      have hl := u4 (by first | trivial | rfl) (by first | trivial | rfl)
      rw [e1] at hJ
      generalize kidF (kth t (upF t a0 b0 c0 d0 s).1.toNat) (lastF s) = z at hJ k1 k2 hl
      obtain ⟨m, rfl⟩ : ∃ m : Nat, z = (m : Int) := ⟨z.toNat, by omega⟩
      rw [Int.toNat_natCast] at hl
      have hm : m < t.length := by omega
      have hm' : (m : Int) < (t.length : Int) := by omega
      have hm0 : (0 : Int) < (m : Int) := by omega
      have HJ := Lib.hid hJ
      clear hup hfd hJ e1 u1 u2 u4 k1 k2
      go_wp2_with fail
      refine (HJ.out _ (HM.out.below B3.out) (HR.out.below B3.out)).mono ?_
      rintro e w4 ⟨rfl, b4⟩
      have r0 : w4.cell? ⟨w1.heap.size, 0, none⟩ = some (.int .i64 a0) := (b4.cell (p := ⟨w1.heap.size, 0, none⟩) (by first | (simp; done) | (simp; omega) | omega)).trans (by first | assumption | go_simp)
      have r1 : w4.cell? ⟨w1.heap.size, 1, none⟩ = some (.int .i64 b0) := (b4.cell (p := ⟨w1.heap.size, 1, none⟩) (by first | (simp; done) | (simp; omega) | omega)).trans (by first | assumption | go_simp)
      have r2 : w4.cell? ⟨w1.heap.size, 2, none⟩ = some (.int .i64 c0) := (b4.cell (p := ⟨w1.heap.size, 2, none⟩) (by first | (simp; done) | (simp; omega) | omega)).trans (by first | assumption | go_simp)
      have r3 : w4.cell? ⟨w1.heap.size, 3, none⟩ = some (.int .i64 d0) := (b4.cell (p := ⟨w1.heap.size, 3, none⟩) (by first | (simp; done) | (simp; omega) | omega)).trans (by first | assumption | go_simp)
      have B4 := Lib.hid (Below.step b4 B3.out.size B3.out)
      have B4w := Lib.hid (Below.step B4.out B1.out.size B1.out)
      clear b4 q0 q1 q2 q3
      obtain ⟨bt, ot, nA, nC, kA, kC, rfl, hbt, _, y0, y1, y2, y3, y4, y5, y6⟩ := (HR.out.below B4.out).at_ (kth_at hm)
      rw [hl] at y5
      go_wp2_with fail
      refine (HK.out _ (HM.out.below B4.out) (HR.out.below B4.out)).mono ?_
      rintro e w5 ⟨rfl, b5⟩
      have B5w := Lib.hid (Below.step b5 B4w.out.size B4w.out)
      clear b5
      go_wp2
      go_ret
      exact ⟨rfl, B5w.out⟩
    · clear hup hfd hJ
      go_wp2_with fail
      refine (HK.out _ (HM.out.below B3.out) (HR.out.below B3.out)).mono ?_
      rintro e w4 ⟨rfl, b4⟩
      have B4w := Lib.hid (Below.step b4 B3w.out.size B3w.out)
      clear b4
      go_wp2_with (go_at_call 16; refine (alive_any _).mono ?_; rintro e w' ⟨rfl, rfl⟩)
      go_ret
      exact ⟨rfl, B4w.out⟩
end Go.Proofs.YthfneaaenlgegaaDoor
