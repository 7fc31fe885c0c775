/- The drawn law on ReadHandle: the walk. -/
import Derived.Test.YthcmecgmidopoaaDrawRH
import Derived.Test.YthcmecgmidopoaaRdP
set_option linter.unusedSimpArgs false
set_option linter.unusedVariables false
set_option linter.unusedSectionVars false
namespace Go.Proofs.Ythcmecgmidopoaa
open Go.RowKit

theorem HBox.below {w w' : World} {g B : Nat} {f a r : Int} (h : HBox w g f a r) (hb : Below B w w') (hg : g < B) : HBox w' g f a r :=
  ⟨(hb.cell (p := ⟨g, _, none⟩) hg).trans h.c0, (hb.cell (p := ⟨g, _, none⟩) hg).trans h.c1, (hb.cell (p := ⟨g, _, none⟩) hg).trans h.c2, fun i => (hb.frozen (p := ⟨g, i, none⟩) hg).trans (h.fz i), Nat.lt_of_lt_of_le h.lt hb.size⟩
theorem HBox.made {w : World} {T : TypeId} {f a r : Int} : HBox (w.alloc (.cells #[.int .i64 f, .int .i64 a, .int .i64 r] T)) w.heap.size f a r :=
  ⟨by go_simp, by go_simp, by go_simp, fun i => by go_simp, by simp⟩
theorem bytes_none {s : ByteArray} (h : s.size = 0) : s = ⟨#[]⟩ := by
  apply ByteArray.ext
  exact Array.eq_empty_of_size_eq_zero h
theorem bytes_some {s : ByteArray} (h : 0 < s.size) : s.toList.isEmpty = false := by
  rw [Bool.eq_false_iff]
  intro h2
  have h3 := List.isEmpty_iff.1 h2
  have h4 : s.data.toList.length = 0 := by rw [← Lib.toList_data, h3]; rfl
  have h5 : s.data.toList.length = s.size := Array.length_toList
  omega
set_option maxRecDepth 100000 in
set_option maxHeartbeats 8000000 in
theorem walkFnReadHandle (a : Option Addr) (len cap : Nat) (zs : List Int) (w : World) (hrow : IsRow .u8 w a len cap zs) :
    Calls Try.prog 7 #[.slice a len cap] w fun e w' => e = .returned (.bool true) ∧ Below w.heap.size w w' := by
  obtain ⟨hl1, hl2⟩ := hrow.len_le
  unfold maxLen at hl2
  by_cases hbig : (1048576 : Int) < (len : Int)
  · go_enter Try.func7, Try.ntmps7
    go_wp2
    go_ret
    exact ⟨rfl, Below.refl _ _⟩
  · go_enter Try.func7, Try.ntmps7
    go_wp2_with fail
    refine (drawRH_any a len cap zs _ hrow).mono ?_
    rintro e w1 ⟨v, t, f, a0, r, many, rfl, hR0, hn, hk, ha0, ha1, b1⟩
    have hR := hR0.r
    clear hR0
    obtain ⟨A, cp, rfl⟩ := hR.shape
    have hcp := hR.caps
    have HR := Lib.hid hR
    have B1 := Lib.hid b1
    have HI := Lib.hid (fun f a r many w h => rdI_of (.slice A t.length cp) t f a r many w h (by omega) (by omega))
    have hI := fun w h => rdI_of (.slice A t.length cp) t f a0 r many w h (by omega) (by omega)
    have hS := fun w h => rdS_of (.slice A t.length cp) t f a0 r many w h (by omega) (by omega)
    have hlaw := @rd_law t f a0 r many
    have hzero : (rdF t f a0 r many).1.size = 0 → (rdF t f a0 r many).2 = a0 := rd_zero
    generalize rdF t f a0 r many = T at hI hS hlaw hzero
    obtain ⟨S, N⟩ := T
    simp only at hI hS hlaw hzero
    have HJ := Lib.hid hI
    have HS := Lib.hid hS
    have HL := Lib.hid hlaw
    have HZ := Lib.hid hzero
    clear hR b1 hI hS hlaw hzero
    go_wp2_with fail
    refine (HJ.out _ (HR.out.below (by (repeat (first | exact Below.refl _ _ | exact Hbl.out | refine Below.ext ?_ (by first | omega | (simp; omega) | simp) | refine Below.setCell ?_ (by first | omega | (simp; omega) | simp) _ | refine Below.alloc ?_ (by first | omega | (simp; omega) | simp) _ | refine Below.drew ?_ | refine below_drewN ?_ _ | refine Below.step (by assumption) (by first | omega | (simp; omega) | simp) ?_))))).mono ?_
    rintro e w2 ⟨rfl, b2⟩
    have X2 := HBox.below HBox.made b2 (by simp)
    have z2 := X2.lt
    have B2 := Lib.hid (Below.step b2 (by simp) (show Below w1.heap.size w1 _ from (by (repeat (first | exact Below.refl _ _ | exact Hbl.out | refine Below.ext ?_ (by first | omega | (simp; omega) | simp) | refine Below.setCell ?_ (by first | omega | (simp; omega) | simp) _ | refine Below.alloc ?_ (by first | omega | (simp; omega) | simp) _ | refine Below.drew ?_ | refine below_drewN ?_ _ | refine Below.step (by assumption) (by first | omega | (simp; omega) | simp) ?_)))))
    obtain ⟨p0, p1, p2, _, _⟩ := id X2
    clear b2
    go_wp2_with fail
    refine (HS.out _ (HR.out.below (Below.alloc B2.out (by omega) _))).mono ?_
    rintro e w3 ⟨rfl, b3⟩
    have X3 := (X2.below (Below.alloc (Below.refl _ _) (Nat.le_refl _) _) z2).below b3 (by simp; omega)
    have Y3 := HBox.below HBox.made b3 (by simp)
    have z3 := X3.lt
    have y3 := Y3.lt
    have B3 := Lib.hid (Below.step b3 (by simp; omega) (Below.alloc B2.out (by omega) _))
    have B3w := Lib.hid (Below.step B3.out B1.out.size B1.out)
    clear p0 p1 p2 b3 X2
    obtain ⟨p0, p1, p2, _, _⟩ := id X3
    obtain ⟨q0, q1, q2, _, _⟩ := id Y3
    clear HS HJ
    rcases Nat.eq_zero_or_pos S.size with hz | hz
    · obtain rfl := bytes_none hz
      obtain rfl := HZ.out hz
      clear HL HZ hz
      go_wp2_with (go_at_call 14; refine (alive_any _).mono ?_; rintro e w' ⟨rfl, rfl⟩)
      go_ret
      exact ⟨rfl, Below.step (show Below w3.heap.size w3 _ from (by (repeat (first | exact Below.refl _ _ | exact Hbl.out | refine Below.ext ?_ (by first | omega | (simp; omega) | simp) | refine Below.setCell ?_ (by first | omega | (simp; omega) | simp) _ | refine Below.alloc ?_ (by first | omega | (simp; omega) | simp) _ | refine Below.drew ?_ | refine below_drewN ?_ _ | refine Below.step (by assumption) (by first | omega | (simp; omega) | simp) ?_)))) B3w.out.size B3w.out⟩
    · obtain ⟨l1, l2, l3, l4, l5, l6⟩ := HL.out hz
      have he : S.toList.isEmpty = false := bytes_some hz
      subst l1
      obtain ⟨H, hH⟩ : ∃ H, H = S.size / 2 := ⟨_, rfl⟩
      have hdiv : ((S.size : Int) / 2) = (H : Int) := by omega
      have hH1 : H ≤ S.size := by omega
      obtain ⟨m1, m2, m3⟩ := l6 H hH1
      have hsub : ((S.size : Int) - (H : Int)) = ((S.size - H : Nat) : Int) := by omega
      have zs : IntKind.i64.wrap ((S.size : Int) - (H : Int)) = ((S.size - H : Nat) : Int) := by rw [hsub]; exact IntWalk.i64_in _ (by omega)
      have za : IntKind.i64.wrap (a0 + (S.size : Int)) = a0 + (S.size : Int) := IntWalk.i64_in _ (by omega)
      have HJ := Lib.hid (fun w h => HI.out f a0 r (H : Int) w h)
      have HK := Lib.hid (fun w h => HI.out f (a0 + (H : Int)) r ((S.size - H : Nat) : Int) w h)
      generalize rdF t f a0 r (H : Int) = T1 at HJ m1 m2
      generalize rdF t f (a0 + (H : Int)) r ((S.size - H : Nat) : Int) = T2 at HK m2 m3
      obtain ⟨S1, N1⟩ := T1
      obtain ⟨S2, N2⟩ := T2
      simp only at m1 m2 m3 HJ HK
      subst m1 m3
      have Hm2 := Lib.hid m2
      have Hdiv := Lib.hid hdiv
      have Hsub := Lib.hid hsub
      clear l6 HL HZ hz hH m2 hdiv hsub
      go_wp2_with fail
      rw [Hdiv.out]
      refine (HJ.out _ (HR.out.below (Below.alloc B3.out (by omega) _))).mono ?_
      rintro e w4 ⟨rfl, b4⟩
      have X4 := (X3.below (Below.alloc (Below.refl _ _) (Nat.le_refl _) _) z3).below b4 (by simp; omega)
      have z4 := X4.lt
      have B4 := Lib.hid (Below.step b4 (by simp; omega) (Below.alloc B3.out (by omega) _))
      have Y4 := (Y3.below (Below.alloc (Below.refl _ _) (Nat.le_refl _) _) y3).below b4 (by simp; omega)
      have y4 := Y4.lt
      clear p0 p1 p2 q0 q1 q2 b4
      go_wp2_with fail
      refine (HK.out _ (HR.out.below (Below.alloc B4.out (by omega) _))).mono ?_
      rintro e w5 ⟨rfl, b5⟩
      have X5 := (X4.below (Below.alloc (Below.refl _ _) (Nat.le_refl _) _) z4).below b5 (by simp; omega)
      have Y5 := (Y4.below (Below.alloc (Below.refl _ _) (Nat.le_refl _) _) y4).below b5 (by simp; omega)
      have z5 := X5.lt
      have y5 := Y5.lt
      have B5 := Lib.hid (Below.step b5 (by simp; omega) (Below.alloc B4.out (by omega) _))
      have B5w := Lib.hid (Below.step B5.out B1.out.size B1.out)
      clear b5
      obtain ⟨p0, p1, p2, _, _⟩ := id X5
      obtain ⟨q0, q1, q2, _, _⟩ := id Y5
      have hcat := Hm2.out
      have hsz : ¬ 9223372036854775807 < S1.size + S2.size := by rw [← ByteArray.size_append, hcat]; omega
      go_wp2_with fail
      go_ret
      exact ⟨rfl, Below.step (show Below w5.heap.size w5 _ from (by (repeat (first | exact Below.refl _ _ | exact Hbl.out | refine Below.ext ?_ (by first | omega | (simp; omega) | simp) | refine Below.setCell ?_ (by first | omega | (simp; omega) | simp) _ | refine Below.alloc ?_ (by first | omega | (simp; omega) | simp) _ | refine Below.drew ?_ | refine below_drewN ?_ _ | refine Below.step (by assumption) (by first | omega | (simp; omega) | simp) ?_)))) B5w.out.size B5w.out⟩
end Go.Proofs.Ythcmecgmidopoaa
