/- The drawn law on AddNote: the walk. -/
import Derived.Test.YtlanbgpmmlnehaaDrawA
import Derived.Test.YtlanbgpmmlnehaaNoteI
import Derived.Test.YtlanbgpmmlnehaaSameN
import Derived.Test.YtlanbgpmmlnehaaName
set_option linter.unusedSimpArgs false
set_option linter.unusedVariables false
set_option linter.unusedSectionVars false
namespace Go.Proofs.Ytlanbgpmmlnehaa
open Go.RowKit

/-- What AddNote can give. -/
theorem addF_cases (nx : Int) (l : List T4) (who : Int) (what : ByteArray) (fault : Int) :
    addF nx l who what fault = ([], 0, false) ∨ addF nx l who what fault = (l, nx, false) ∨
    (addF nx l who what fault = (addL nx l who what fault, nx + 1, true) ∧ audB (nx + 1) (addL nx l who what fault) = true ∧ 0 ≤ nx ∧ nx ≤ 10000 ∧ l.length ≤ 10) := by
  unfold addF
  by_cases h : audB nx l = true
  · rw [if_pos h]
    by_cases h2 : audB (nx + 1) (addL nx l who what fault) = true
    · rw [if_pos h2]
      obtain ⟨k1, k2, k3, _⟩ := audB_all h
      exact .inr (.inr ⟨rfl, h2, k1, k2, by omega⟩)
    · rw [if_neg h2]; exact .inr (.inl rfl)
  · rw [if_neg h]; exact .inl rfl
theorem addL_parts (nx : Int) (l : List T4) (who : Int) (what : ByteArray) (fault : Int) (hl : l.length ≤ 10) : ∃ (last drop : Nat), (addL nx l who what fault).length = last + 1 ∧ l.length = last + drop ∧ drop ≤ 1 ∧ (drop = 1 → last = 9) ∧
    (addL nx l who what fault)[last]? = some (nx, who, what, fault) ∧ (addL nx l who what fault).take last = l.drop drop := by
  unfold addL
  by_cases h : 10 < l.length + 1
  · rw [if_pos h]
    cases l with
    | nil => simp at h
    | cons a r =>
      have hr : r.length = 9 := by simp at h hl; omega
      refine ⟨9, 1, by simp [hr], by simp [hr], by omega, fun _ => rfl, ?_, ?_⟩
      · simp [hr]
      · simp [← hr]
  · rw [if_neg h]
    exact ⟨l.length, 0, by simp, by omega, by omega, fun h => by omega, by simp, by simp⟩
theorem addF_fine (nx : Int) (l : List T4) (who : Int) (what : ByteArray) (fault : Int) (hl : l.length ≤ 11) (hx : Txt l) (hs : what.size ≤ maxLen) : (addF nx l who what fault).1.length ≤ 1000 ∧ Txt (addL nx l who what fault) := by
  have ha := txt_app (x := (nx, who, what, fault)) hx hs
  have hL : (addL nx l who what fault).length ≤ 1000 ∧ Txt (addL nx l who what fault) := by
    unfold addL
    split
    · exact ⟨by simp; omega, txt_drop ha 1⟩
    · exact ⟨by simp; omega, ha⟩
  refine ⟨?_, hL.2⟩
  unfold addF
  split
  · split
    · exact hL.1
    · show l.length ≤ 1000; omega
  · simp
set_option maxRecDepth 100000 in
set_option maxHeartbeats 8000000 in
theorem walkFnAddNote (a : Option Addr) (len cap : Nat) (zs : List Int) (w : World) (hrow : IsRow .u8 w a len cap zs) :
    Calls Try.prog 7 #[.slice a len cap] w fun e w' => e = .returned (.bool true) ∧ Below w.heap.size w w' := by
  obtain ⟨hl1, hl2⟩ := hrow.len_le
  unfold maxLen at hl2
  by_cases hbig : (1048576 : Int) < (len : Int)
  · go_enter Try.func7, Try.ntmps7
    go_wp2
    go_ret
    exact ⟨rfl, Below.refl _ _⟩
  · go_enter Try.func7, Try.ntmps7
    go_wp2_with fail
    refine (drawAN_any a len cap zs _ hrow).mono ?_
    rintro e w1 ⟨v, l, nx, who, what, fault, rfl, hl, hx, hws, hsl, b1⟩
    have hwm : what.size ≤ maxLen := by unfold maxLen; omega
    have h1 := fun w h => addNoteI_of v nx l who what fault w h hx (by omega) hwm
    have h2 := fun w h => addNoteS_of v nx l who what fault w h hx (by omega) hwm
    have hcase := addF_cases nx l who what fault
    have hparts := fun h => addL_parts nx l who what fault h
    obtain ⟨hrl, hLt⟩ := addF_fine nx l who what fault hl hx hwm
    have hbx := fun v w (h : SlG EN w v (addL nx l who what fault)) => auditValidI_of v (nx + 1) (addL nx l who what fault) w (sl4_of h) hLt
    generalize addF nx l who what fault = r at h1 h2 hcase hrl
    obtain ⟨rl, rn, rb⟩ := r
    have H1 := Lib.hid h1
    have H2 := Lib.hid h2
    have Hc := Lib.hid hcase
    have Hp := Lib.hid hparts
    have Hb := Lib.hid hbx
    have Hsl := Lib.hid hsl
    have Hrl := Lib.hid hrl
    obtain ⟨A, c, rfl⟩ := hsl.shape
    have hz1 := b1.size
    have B1 := Lib.hid b1
    clear h1 h2 hcase hparts hbx hsl b1 hx hLt hrl
    go_wp2_with fail
    refine (H1.out _ (Hsl.out.below (by (repeat (first | exact Below.refl _ _ | exact Hbl.out | refine Below.ext ?_ (by first | omega | (simp; omega) | simp) | refine Below.setCell ?_ (by first | omega | (simp; omega) | simp) _ | refine Below.alloc ?_ (by first | omega | (simp; omega) | simp) _ | refine Below.drew ?_ | refine below_drewN ?_ _ | refine Below.step (by assumption) (by first | omega | (simp; omega) | simp) ?_))))).mono ?_
    rintro e w2 ⟨v2, rfl, hr2, b2⟩
    have p0 : w2.cell? ⟨w1.heap.size, 0, none⟩ = some (.slice A l.length c) := (b2.cell (p := ⟨w1.heap.size, 0, none⟩) (by simp)).trans (by go_simp)
    have p1 : w2.cell? ⟨w1.heap.size, 1, none⟩ = some (.int .i64 nx) := (b2.cell (p := ⟨w1.heap.size, 1, none⟩) (by simp)).trans (by go_simp)
    have hz2 : w1.heap.size < w2.heap.size := by have := b2.size; simp at this; omega
    have c2 : Below w1.heap.size w1 w2 := Below.step b2 (by simp) (by (repeat (first | exact Below.refl _ _ | exact Hbl.out | refine Below.ext ?_ (by first | omega | (simp; omega) | simp) | refine Below.setCell ?_ (by first | omega | (simp; omega) | simp) _ | refine Below.alloc ?_ (by first | omega | (simp; omega) | simp) _ | refine Below.drew ?_ | refine below_drewN ?_ _ | refine Below.step (by assumption) (by first | omega | (simp; omega) | simp) ?_)))
    have C2 := Lib.hid c2
    have R2 := Lib.hid (rowF_sl hr2)
    obtain ⟨A2, k2, rfl⟩ := rowF_shape hr2
    have hk2 := (rowF_sl hr2).caps
    clear b2 c2 hr2
    go_wp2_with fail
    refine (H2.out _ (Hsl.out.below (Below.alloc C2.out (by omega) _))).mono ?_
    rintro e w3 ⟨v3, rfl, hr3, b3⟩
    have q0 : w3.cell? ⟨w1.heap.size, 0, none⟩ = some (.slice A l.length c) := (b3.cell (p := ⟨w1.heap.size, 0, none⟩) (by simp; omega)).trans (by go_simp)
    have q1 : w3.cell? ⟨w1.heap.size, 1, none⟩ = some (.int .i64 nx) := (b3.cell (p := ⟨w1.heap.size, 1, none⟩) (by simp; omega)).trans (by go_simp)
    have q2 : w3.cell? ⟨w2.heap.size, 0, none⟩ = some (.slice A2 rl.length k2) := (b3.cell (p := ⟨w2.heap.size, 0, none⟩) (by simp)).trans (by go_simp)
    have q3 : w3.cell? ⟨w2.heap.size, 1, none⟩ = some (.int .i64 rn) := (b3.cell (p := ⟨w2.heap.size, 1, none⟩) (by simp)).trans (by go_simp)
    have hz3 : w2.heap.size < w3.heap.size := by have := b3.size; simp at this; omega
    have c3 : Below w2.heap.size w2 w3 := Below.step b3 (by simp) (by (repeat (first | exact Below.refl _ _ | exact Hbl.out | refine Below.ext ?_ (by first | omega | (simp; omega) | simp) | refine Below.setCell ?_ (by first | omega | (simp; omega) | simp) _ | refine Below.alloc ?_ (by first | omega | (simp; omega) | simp) _ | refine Below.drew ?_ | refine below_drewN ?_ _ | refine Below.step (by assumption) (by first | omega | (simp; omega) | simp) ?_)))
    have C3 := Lib.hid (Below.step c3 (Nat.le_of_lt hz2) C2.out)
    have R2' := Lib.hid (R2.out.below c3)
    have R3 := Lib.hid (rowF_sl hr3)
    obtain ⟨A3, k3, rfl⟩ := rowF_shape hr3
    clear b3 c3 hr3 p0 p1
    go_wp2_with fail
    refine (sameNotes_eq _ _ rl _ (R2'.out.below (by (repeat (first | exact Below.refl _ _ | exact Hbl.out | refine Below.ext ?_ (by first | omega | (simp; omega) | simp) | refine Below.setCell ?_ (by first | omega | (simp; omega) | simp) _ | refine Below.alloc ?_ (by first | omega | (simp; omega) | simp) _ | refine Below.drew ?_ | refine below_drewN ?_ _ | refine Below.step (by assumption) (by first | omega | (simp; omega) | simp) ?_)))) (R3.out.below (by (repeat (first | exact Below.refl _ _ | exact Hbl.out | refine Below.ext ?_ (by first | omega | (simp; omega) | simp) | refine Below.setCell ?_ (by first | omega | (simp; omega) | simp) _ | refine Below.alloc ?_ (by first | omega | (simp; omega) | simp) _ | refine Below.drew ?_ | refine below_drewN ?_ _ | refine Below.step (by assumption) (by first | omega | (simp; omega) | simp) ?_)))) Hrl.out).mono ?_
    rintro e w4 ⟨rfl, n4, rfl⟩
    rcases Hc.out with hc | hc | ⟨hc, hva, k0, k1, hl10⟩
    · injection hc with e1 e2
      injection e2 with e2 e3
      subst e1 e2 e3
      by_cases hl0 : l.length = 0
      · have hl00 : l = [] := List.length_eq_zero_iff.1 hl0
        subst hl00
        clear hl0
        by_cases hn0 : nx = 0
        · subst hn0
          go_wp2_with fail
          refine (sameNotes_eq _ _ [] _ (R2'.out.below (by (repeat (first | exact Below.refl _ _ | exact Hbl.out | refine Below.ext ?_ (by first | omega | (simp; omega) | simp) | refine Below.setCell ?_ (by first | omega | (simp; omega) | simp) _ | refine Below.alloc ?_ (by first | omega | (simp; omega) | simp) _ | refine Below.drew ?_ | refine below_drewN ?_ _ | refine Below.step (by assumption) (by first | omega | (simp; omega) | simp) ?_)))) ((Hsl.out.below C3.out).below (by (repeat (first | exact Below.refl _ _ | exact Hbl.out | refine Below.ext ?_ (by first | omega | (simp; omega) | simp) | refine Below.setCell ?_ (by first | omega | (simp; omega) | simp) _ | refine Below.alloc ?_ (by first | omega | (simp; omega) | simp) _ | refine Below.drew ?_ | refine below_drewN ?_ _ | refine Below.step (by assumption) (by first | omega | (simp; omega) | simp) ?_)))) (by decide)).mono ?_
          rintro e w5 ⟨rfl, n5, rfl⟩
          go_wp2_with fail
          refine (alive_any _).mono ?_
          rintro e w' ⟨rfl, rfl⟩
          go_wp2
          go_ret
          exact ⟨rfl, Below.step (show Below w3.heap.size w3 _ from (by (repeat (first | exact Below.refl _ _ | exact Hbl.out | refine Below.ext ?_ (by first | omega | (simp; omega) | simp) | refine Below.setCell ?_ (by first | omega | (simp; omega) | simp) _ | refine Below.alloc ?_ (by first | omega | (simp; omega) | simp) _ | refine Below.drew ?_ | refine below_drewN ?_ _ | refine Below.step (by assumption) (by first | omega | (simp; omega) | simp) ?_)))) (by omega) (Below.step C3.out hz1 B1.out)⟩
        · have hn1 : ¬ 0 = nx := fun h => hn0 h.symm
          go_wp2_with fail
          refine (sameNotes_eq _ _ [] _ (R2'.out.below (by (repeat (first | exact Below.refl _ _ | exact Hbl.out | refine Below.ext ?_ (by first | omega | (simp; omega) | simp) | refine Below.setCell ?_ (by first | omega | (simp; omega) | simp) _ | refine Below.alloc ?_ (by first | omega | (simp; omega) | simp) _ | refine Below.drew ?_ | refine below_drewN ?_ _ | refine Below.step (by assumption) (by first | omega | (simp; omega) | simp) ?_)))) ((Hsl.out.below C3.out).below (by (repeat (first | exact Below.refl _ _ | exact Hbl.out | refine Below.ext ?_ (by first | omega | (simp; omega) | simp) | refine Below.setCell ?_ (by first | omega | (simp; omega) | simp) _ | refine Below.alloc ?_ (by first | omega | (simp; omega) | simp) _ | refine Below.drew ?_ | refine below_drewN ?_ _ | refine Below.step (by assumption) (by first | omega | (simp; omega) | simp) ?_)))) (by decide)).mono ?_
          rintro e w5 ⟨rfl, n5, rfl⟩
          go_wp2_with fail
          refine (alive_any _).mono ?_
          rintro e w' ⟨rfl, rfl⟩
          go_wp2
          go_ret
          exact ⟨rfl, Below.step (show Below w3.heap.size w3 _ from (by (repeat (first | exact Below.refl _ _ | exact Hbl.out | refine Below.ext ?_ (by first | omega | (simp; omega) | simp) | refine Below.setCell ?_ (by first | omega | (simp; omega) | simp) _ | refine Below.alloc ?_ (by first | omega | (simp; omega) | simp) _ | refine Below.drew ?_ | refine below_drewN ?_ _ | refine Below.step (by assumption) (by first | omega | (simp; omega) | simp) ?_)))) (by omega) (Below.step C3.out hz1 B1.out)⟩
      · go_wp2_with fail
        refine (sameNotes_len _ _ 0 l.length _ _ _ (by omega)).mono ?_
        rintro e w5 ⟨rfl, n5, rfl⟩
        go_wp2_with fail
        refine (alive_any _).mono ?_
        rintro e w' ⟨rfl, rfl⟩
        go_wp2
        go_ret
        exact ⟨rfl, Below.step (show Below w3.heap.size w3 _ from (by (repeat (first | exact Below.refl _ _ | exact Hbl.out | refine Below.ext ?_ (by first | omega | (simp; omega) | simp) | refine Below.setCell ?_ (by first | omega | (simp; omega) | simp) _ | refine Below.alloc ?_ (by first | omega | (simp; omega) | simp) _ | refine Below.drew ?_ | refine below_drewN ?_ _ | refine Below.step (by assumption) (by first | omega | (simp; omega) | simp) ?_)))) (by omega) (Below.step C3.out hz1 B1.out)⟩
    · injection hc with e1 e2
      injection e2 with e2 e3
      subst e1 e2 e3
      go_wp2_with fail
      refine (sameNotes_eq _ _ rl _ (R2'.out.below (by (repeat (first | exact Below.refl _ _ | exact Hbl.out | refine Below.ext ?_ (by first | omega | (simp; omega) | simp) | refine Below.setCell ?_ (by first | omega | (simp; omega) | simp) _ | refine Below.alloc ?_ (by first | omega | (simp; omega) | simp) _ | refine Below.drew ?_ | refine below_drewN ?_ _ | refine Below.step (by assumption) (by first | omega | (simp; omega) | simp) ?_)))) ((Hsl.out.below C3.out).below (by (repeat (first | exact Below.refl _ _ | exact Hbl.out | refine Below.ext ?_ (by first | omega | (simp; omega) | simp) | refine Below.setCell ?_ (by first | omega | (simp; omega) | simp) _ | refine Below.alloc ?_ (by first | omega | (simp; omega) | simp) _ | refine Below.drew ?_ | refine below_drewN ?_ _ | refine Below.step (by assumption) (by first | omega | (simp; omega) | simp) ?_)))) (by omega)).mono ?_
      rintro e w5 ⟨rfl, n5, rfl⟩
      go_wp2_with fail
      refine (alive_any _).mono ?_
      rintro e w' ⟨rfl, rfl⟩
      go_wp2
      go_ret
      exact ⟨rfl, Below.step (show Below w3.heap.size w3 _ from (by (repeat (first | exact Below.refl _ _ | exact Hbl.out | refine Below.ext ?_ (by first | omega | (simp; omega) | simp) | refine Below.setCell ?_ (by first | omega | (simp; omega) | simp) _ | refine Below.alloc ?_ (by first | omega | (simp; omega) | simp) _ | refine Below.drew ?_ | refine below_drewN ?_ _ | refine Below.step (by assumption) (by first | omega | (simp; omega) | simp) ?_)))) (by omega) (Below.step C3.out hz1 B1.out)⟩
    · injection hc with e1 e2
      injection e2 with e2 e3
      subst e1 e2 e3
      have hb1 := Hb.out
      rw [hva] at hb1
      obtain ⟨last, drop, e1, e2, e3, e9, e4, e5⟩ := Hp.out hl10
      obtain ⟨m, hm⟩ : ∃ m, m = addL nx l who what fault := ⟨_, rfl⟩
      rw [← hm] at hb1 e1 e4 e5 R2 R2' R3 Hrl hk2 q2 ⊢
      clear hm
      have Hb' := Lib.hid hb1
      have hT2 := R2'.out.take (k := last) (by omega)
      rw [e5] at hT2
      have T2 := Lib.hid hT2
      obtain ⟨bb, off, rfl, hbb, hat⟩ := R2'.out.at_ e4
      have g0 : w3.cell? ⟨bb, off + last * 4, none⟩ = some (.int .i64 nx) := hat 0 _ rfl
      have g1 : w3.cell? ⟨bb, off + last * 4 + 1, none⟩ = some (.int .i64 who) := hat 1 _ rfl
      have g2 : w3.cell? ⟨bb, off + last * 4 + 2, none⟩ = some (.string what) := hat 2 _ rfl
      have g3 : w3.cell? ⟨bb, off + last * 4 + 3, none⟩ = some (.int .i64 fault) := hat 3 _ rfl
      have hS3 := Hsl.out.below C3.out
      have S3 := Lib.hid hS3
      have hR2q := R2'.out
      rw [e1] at hR2q
      have R2q := Lib.hid hR2q
      clear hR2q
      have hk := hk2
      rw [e1] at hk q2
      clear hb1 hT2 hat hS3 hva Hb Hp hk2
      rw [e1]
      have hd : drop = 0 ∨ drop = 1 := by omega
      have zn : IntKind.i64.wrap (nx + 1) = nx + 1 := IntWalk.i64_in _ (by omega)
      have zl : IntKind.i64.wrap ((last : Int) + 1 - 1) = (last : Int) := by rw [IntWalk.i64_in _ (by omega)]; omega
      rcases hd with rfl | rfl
      · obtain rfl : last = l.length := by omega
        have zd : IntKind.i64.wrap ((l.length : Int) - (l.length : Int)) = 0 := by rw [IntWalk.i64_in _ (by omega)]; omega
        rw [List.drop_zero] at T2
        clear e2 e3
        by_cases hl0 : l = []
        · subst hl0
          simp only [List.length_nil, Nat.zero_mul, Nat.add_zero] at g0 g1 g2 g3
          have hc0 := S3.out.caps
          have T1 : ∀ X W, SlG EN W (.slice X 0 c) ([] : List T4) := fun X W => SlG.zero (by unfold maxLen; omega)
          rcases A with _ | ad
          · go_wp2_with fail
            go_region_held3 (fun w' => w'.cell? ⟨w1.heap.size, 0, none⟩ = some (.slice none 0 c) ∧ w'.cell? ⟨w1.heap.size, 1, none⟩ = some (.int .i64 nx) ∧ w'.cell? ⟨w2.heap.size, 0, none⟩ = some (.slice (some ⟨bb, off, none⟩) 1 k2) ∧ w'.cell? ⟨w2.heap.size, 1, none⟩ = some (.int .i64 (nx + 1)) ∧ w'.cell? ⟨bb, off, none⟩ = some (.int .i64 nx) ∧ w'.cell? ⟨bb, off + 1, none⟩ = some (.int .i64 who) ∧ w'.cell? ⟨bb, off + 2, none⟩ = some (.string what) ∧ w'.cell? ⟨bb, off + 3, none⟩ = some (.int .i64 fault)) (first | assumption | (go_simp; done) | fail) (first | (go_at_call 20; refine (Hb'.out _ _ ?_).mono ?_; (focus (exact R2q.out.below (by (repeat (first | exact Below.refl _ _ | exact Hbl.out | refine Below.ext ?_ (by first | omega | (simp; omega) | simp) | refine Below.setCell ?_ (by first | omega | (simp; omega) | simp) _ | refine Below.alloc ?_ (by first | omega | (simp; omega) | simp) _ | refine Below.drew ?_ | refine below_drewN ?_ _ | refine Below.step (by assumption) (by first | omega | (simp; omega) | simp) ?_))))); rintro e w5 ⟨rfl, hb5⟩; obtain ⟨d5, os5, rfl⟩ := ext_of_below hb5; clear hb5) | (go_at_call 28; refine (sameNotes_eq _ _ [] _ ?_ ?_ ?_).mono ?_; (focus (exact T2.out.below (by (repeat (first | exact Below.refl _ _ | exact Hbl.out | refine Below.ext ?_ (by first | omega | (simp; omega) | simp) | refine Below.setCell ?_ (by first | omega | (simp; omega) | simp) _ | refine Below.alloc ?_ (by first | omega | (simp; omega) | simp) _ | refine Below.drew ?_ | refine below_drewN ?_ _ | refine Below.step (by assumption) (by first | omega | (simp; omega) | simp) ?_))))); (focus (exact T1 _ _)); (focus (first | (simp; done) | omega | (simp; omega))); rintro e w6 ⟨rfl, n6, rfl⟩))
            all_goals
              go_wp2_with fail
              go_ret
              exact ⟨rfl, Below.step (show Below w3.heap.size w3 _ from (by (repeat (first | exact Below.refl _ _ | exact Hbl.out | refine Below.ext ?_ (by first | omega | (simp; omega) | simp) | refine Below.setCell ?_ (by first | omega | (simp; omega) | simp) _ | refine Below.alloc ?_ (by first | omega | (simp; omega) | simp) _ | refine Below.drew ?_ | refine below_drewN ?_ _ | refine Below.step (by assumption) (by first | omega | (simp; omega) | simp) ?_)))) (by omega) (Below.step C3.out hz1 B1.out)⟩
          · go_wp2_with fail
            go_region_held3 (fun w' => w'.cell? ⟨w1.heap.size, 0, none⟩ = some (.slice (some ad) 0 c) ∧ w'.cell? ⟨w1.heap.size, 1, none⟩ = some (.int .i64 nx) ∧ w'.cell? ⟨w2.heap.size, 0, none⟩ = some (.slice (some ⟨bb, off, none⟩) 1 k2) ∧ w'.cell? ⟨w2.heap.size, 1, none⟩ = some (.int .i64 (nx + 1)) ∧ w'.cell? ⟨bb, off, none⟩ = some (.int .i64 nx) ∧ w'.cell? ⟨bb, off + 1, none⟩ = some (.int .i64 who) ∧ w'.cell? ⟨bb, off + 2, none⟩ = some (.string what) ∧ w'.cell? ⟨bb, off + 3, none⟩ = some (.int .i64 fault)) (first | assumption | (go_simp; done) | fail) (first | (go_at_call 20; refine (Hb'.out _ _ ?_).mono ?_; (focus (exact R2q.out.below (by (repeat (first | exact Below.refl _ _ | exact Hbl.out | refine Below.ext ?_ (by first | omega | (simp; omega) | simp) | refine Below.setCell ?_ (by first | omega | (simp; omega) | simp) _ | refine Below.alloc ?_ (by first | omega | (simp; omega) | simp) _ | refine Below.drew ?_ | refine below_drewN ?_ _ | refine Below.step (by assumption) (by first | omega | (simp; omega) | simp) ?_))))); rintro e w5 ⟨rfl, hb5⟩; obtain ⟨d5, os5, rfl⟩ := ext_of_below hb5; clear hb5) | (go_at_call 28; refine (sameNotes_eq _ _ [] _ ?_ ?_ ?_).mono ?_; (focus (exact T2.out.below (by (repeat (first | exact Below.refl _ _ | exact Hbl.out | refine Below.ext ?_ (by first | omega | (simp; omega) | simp) | refine Below.setCell ?_ (by first | omega | (simp; omega) | simp) _ | refine Below.alloc ?_ (by first | omega | (simp; omega) | simp) _ | refine Below.drew ?_ | refine below_drewN ?_ _ | refine Below.step (by assumption) (by first | omega | (simp; omega) | simp) ?_))))); (focus (exact T1 _ _)); (focus (first | (simp; done) | omega | (simp; omega))); rintro e w6 ⟨rfl, n6, rfl⟩))
            all_goals
              go_wp2_with fail
              go_ret
              exact ⟨rfl, Below.step (show Below w3.heap.size w3 _ from (by (repeat (first | exact Below.refl _ _ | exact Hbl.out | refine Below.ext ?_ (by first | omega | (simp; omega) | simp) | refine Below.setCell ?_ (by first | omega | (simp; omega) | simp) _ | refine Below.alloc ?_ (by first | omega | (simp; omega) | simp) _ | refine Below.drew ?_ | refine below_drewN ?_ _ | refine Below.step (by assumption) (by first | omega | (simp; omega) | simp) ?_)))) (by omega) (Below.step C3.out hz1 B1.out)⟩
        · have hl1 : 0 < l.length := List.length_pos_iff.2 hl0
          obtain ⟨bA, oA, rfl, hbA, _⟩ := S3.out.at_ (nt_at hl1)
          have T1 := S3
          have i0 : (0 : Int) ≤ (l.length : Int) := by omega
          have i1 : (l.length : Int) < (l.length : Int) + 1 := by omega
          have i2 : (l.length : Int) ≤ (k2 : Int) := by have := hk.1; omega
          clear hl0 e9
          go_wp2_with fail
          go_region_held3 (fun w' => w'.cell? ⟨w1.heap.size, 0, none⟩ = some (.slice (some ⟨bA, oA, none⟩) l.length c) ∧ w'.cell? ⟨w1.heap.size, 1, none⟩ = some (.int .i64 nx) ∧ w'.cell? ⟨w2.heap.size, 0, none⟩ = some (.slice (some ⟨bb, off, none⟩) (l.length + 1) k2) ∧ w'.cell? ⟨w2.heap.size, 1, none⟩ = some (.int .i64 (nx + 1)) ∧ w'.cell? ⟨bb, off + l.length * 4, none⟩ = some (.int .i64 nx) ∧ w'.cell? ⟨bb, off + l.length * 4 + 1, none⟩ = some (.int .i64 who) ∧ w'.cell? ⟨bb, off + l.length * 4 + 2, none⟩ = some (.string what) ∧ w'.cell? ⟨bb, off + l.length * 4 + 3, none⟩ = some (.int .i64 fault)) (first | assumption | (go_simp; done) | fail) (first | (go_at_call 20; refine (Hb'.out _ _ ?_).mono ?_; (focus (exact R2q.out.below (by (repeat (first | exact Below.refl _ _ | exact Hbl.out | refine Below.ext ?_ (by first | omega | (simp; omega) | simp) | refine Below.setCell ?_ (by first | omega | (simp; omega) | simp) _ | refine Below.alloc ?_ (by first | omega | (simp; omega) | simp) _ | refine Below.drew ?_ | refine below_drewN ?_ _ | refine Below.step (by assumption) (by first | omega | (simp; omega) | simp) ?_))))); rintro e w5 ⟨rfl, hb5⟩; obtain ⟨d5, os5, rfl⟩ := ext_of_below hb5; clear hb5) | (go_at_call 28; refine (sameNotes_eq _ _ l _ ?_ ?_ ?_).mono ?_; (focus (exact T2.out.below (by (repeat (first | exact Below.refl _ _ | exact Hbl.out | refine Below.ext ?_ (by first | omega | (simp; omega) | simp) | refine Below.setCell ?_ (by first | omega | (simp; omega) | simp) _ | refine Below.alloc ?_ (by first | omega | (simp; omega) | simp) _ | refine Below.drew ?_ | refine below_drewN ?_ _ | refine Below.step (by assumption) (by first | omega | (simp; omega) | simp) ?_))))); (focus (exact T1.out.below (by (repeat (first | exact Below.refl _ _ | exact Hbl.out | refine Below.ext ?_ (by first | omega | (simp; omega) | simp) | refine Below.setCell ?_ (by first | omega | (simp; omega) | simp) _ | refine Below.alloc ?_ (by first | omega | (simp; omega) | simp) _ | refine Below.drew ?_ | refine below_drewN ?_ _ | refine Below.step (by assumption) (by first | omega | (simp; omega) | simp) ?_))))); (focus (first | (simp; done) | omega | (simp; omega))); rintro e w6 ⟨rfl, n6, rfl⟩))
          all_goals
            go_wp2_with fail
            go_ret
            exact ⟨rfl, Below.step (show Below w3.heap.size w3 _ from (by (repeat (first | exact Below.refl _ _ | exact Hbl.out | refine Below.ext ?_ (by first | omega | (simp; omega) | simp) | refine Below.setCell ?_ (by first | omega | (simp; omega) | simp) _ | refine Below.alloc ?_ (by first | omega | (simp; omega) | simp) _ | refine Below.drew ?_ | refine below_drewN ?_ _ | refine Below.step (by assumption) (by first | omega | (simp; omega) | simp) ?_)))) (by omega) (Below.step C3.out hz1 B1.out)⟩
      · obtain ⟨bA, oA, rfl, hbA, _⟩ := S3.out.at_ (nt_at (l := l) (i := 0) (by omega))
        have T1 := Lib.hid (S3.out.drop (k := 1) (by omega))
        rw [e2, show last + 1 - 1 = last from rfl] at T1
        obtain rfl : last = 9 := e9 rfl
        have e2' : l.length = 10 := e2
        rw [e2'] at q0
        have i2 : (9 : Int) ≤ (k2 : Int) := by have := hk.1; omega
        have hcc := S3.out.caps
        have i3 : (1 : Int) ≤ (c : Int) := by omega
        have i5 : (10 : Int) ≤ (c : Int) := by omega
        have i4 : ¬ (c : Int) = 1 := by omega
        have i6 : ¬ c = 1 := by omega
        simp only [Nat.reduceMul, Nat.reduceAdd] at g0 g1 g2 g3 R2q q2 T1 T2
        clear e9 hcc hk e2 e2' zl
        go_wp2_with fail
        go_region_held3 (fun w' => w'.cell? ⟨w1.heap.size, 0, none⟩ = some (.slice (some ⟨bA, oA, none⟩) (10) c) ∧ w'.cell? ⟨w1.heap.size, 1, none⟩ = some (.int .i64 nx) ∧ w'.cell? ⟨w2.heap.size, 0, none⟩ = some (.slice (some ⟨bb, off, none⟩) (10) k2) ∧ w'.cell? ⟨w2.heap.size, 1, none⟩ = some (.int .i64 (nx + 1)) ∧ w'.cell? ⟨bb, off + 36, none⟩ = some (.int .i64 nx) ∧ w'.cell? ⟨bb, off + 36 + 1, none⟩ = some (.int .i64 who) ∧ w'.cell? ⟨bb, off + 36 + 2, none⟩ = some (.string what) ∧ w'.cell? ⟨bb, off + 36 + 3, none⟩ = some (.int .i64 fault)) (first | assumption | (go_simp; done) | fail) (first | (go_at_call 20; refine (Hb'.out _ _ ?_).mono ?_; (focus (exact R2q.out.below (by (repeat (first | exact Below.refl _ _ | exact Hbl.out | refine Below.ext ?_ (by first | omega | (simp; omega) | simp) | refine Below.setCell ?_ (by first | omega | (simp; omega) | simp) _ | refine Below.alloc ?_ (by first | omega | (simp; omega) | simp) _ | refine Below.drew ?_ | refine below_drewN ?_ _ | refine Below.step (by assumption) (by first | omega | (simp; omega) | simp) ?_))))); rintro e w5 ⟨rfl, hb5⟩; obtain ⟨d5, os5, rfl⟩ := ext_of_below hb5; clear hb5) | (go_at_call 28; refine (sameNotes_eq _ _ (l.drop 1) _ ?_ ?_ ?_).mono ?_; (focus (exact T2.out.below (by (repeat (first | exact Below.refl _ _ | exact Hbl.out | refine Below.ext ?_ (by first | omega | (simp; omega) | simp) | refine Below.setCell ?_ (by first | omega | (simp; omega) | simp) _ | refine Below.alloc ?_ (by first | omega | (simp; omega) | simp) _ | refine Below.drew ?_ | refine below_drewN ?_ _ | refine Below.step (by assumption) (by first | omega | (simp; omega) | simp) ?_))))); (focus (exact T1.out.below (by (repeat (first | exact Below.refl _ _ | exact Hbl.out | refine Below.ext ?_ (by first | omega | (simp; omega) | simp) | refine Below.setCell ?_ (by first | omega | (simp; omega) | simp) _ | refine Below.alloc ?_ (by first | omega | (simp; omega) | simp) _ | refine Below.drew ?_ | refine below_drewN ?_ _ | refine Below.step (by assumption) (by first | omega | (simp; omega) | simp) ?_))))); (focus (first | (simp; done) | omega | (simp; omega))); rintro e w6 ⟨rfl, n6, rfl⟩))
        all_goals
          go_wp2_with fail
          go_ret
          exact ⟨rfl, Below.step (show Below w3.heap.size w3 _ from (by (repeat (first | exact Below.refl _ _ | exact Hbl.out | refine Below.ext ?_ (by first | omega | (simp; omega) | simp) | refine Below.setCell ?_ (by first | omega | (simp; omega) | simp) _ | refine Below.alloc ?_ (by first | omega | (simp; omega) | simp) _ | refine Below.drew ?_ | refine below_drewN ?_ _ | refine Below.step (by assumption) (by first | omega | (simp; omega) | simp) ?_)))) (by omega) (Below.step C3.out hz1 B1.out)⟩
end Go.Proofs.Ytlanbgpmmlnehaa
