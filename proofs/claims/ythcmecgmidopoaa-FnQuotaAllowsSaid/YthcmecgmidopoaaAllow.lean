/- 'QuotaAllows' of the package and of the reference. -/
import Derived.Test.YthcmecgmidopoaaOver
import Derived.Test.YthcmecgmidopoaaMH
set_option linter.unusedSimpArgs false
set_option linter.unusedVariables false
set_option linter.unusedSectionVars false
namespace Go.Proofs.Ythcmecgmidopoaa
open Go.RowKit

def grewB (tb ta : List Nd) (u : Int) : Bool := decide ((usageF tb u).1 < (usageF ta u).1) || decide ((usageF tb u).2 < (usageF ta u).2)
def allowB (tb ta : List Nd) (l : List Q3) : Bool := treeB tb && (treeB ta && (quotaB l && (overF ta l).all (fun u => !grewB tb ta u)))
theorem all_nth {os : List Int} {k : Nat} {p : Int → Bool} (hk : k < os.length) (h : (!p (nthL os k)) = true) : os.all p = false := by
  rw [Bool.eq_false_iff]
  intro e
  have := List.all_eq_true.1 e _ (List.mem_of_getElem? (nthL_at hk))
  rw [this] at h; cases h
theorem all_end {os : List Int} {f : Int → Bool} (h : ∀ j, j < os.length → f (nthL os j) = false) : os.all (fun u => !f u) = true := by
  rw [List.all_eq_true]
  intro x hx
  obtain ⟨j, hj, e⟩ := List.mem_iff_getElem.1 hx
  have h2 := nthL_at hj
  rw [List.getElem?_eq_getElem hj, e] at h2
  injection h2 with h2
  have := h j hj
  rw [← h2] at this
  rw [this]; rfl
set_option maxRecDepth 100000 in
set_option maxHeartbeats 8000000 in
theorem allowI_of (v u x : Value) (tb ta : List Nd) (l : List Q3) (w : World) (h : TreeR w v tb) (h2 : TreeR w u ta) (hq : SlG EQ w x l) (ht : tb.length ≤ 1000) (hkz : (kidsOf tb).length ≤ 1000000) (ht2 : ta.length ≤ 1000) (hkz2 : (kidsOf ta).length ≤ 1000000) :
    Calls Try.prog 37 #[v, u, x] w fun e w' => e = .returned (.bool (allowB tb ta l)) ∧ Below w.heap.size w w' := by
  have H := Lib.hid h
  have HA := Lib.hid h2
  have HL := Lib.hid hq
  have HTb := Lib.hid (fun w h => treeI_of v tb w h ht hkz)
  have HTa := Lib.hid (fun w h => treeI_of u ta w h ht2 hkz2)
  have HUb := Lib.hid (fun y w h => usageI_of v tb y w h ht hkz)
  have HUa := Lib.hid (fun y w h => usageI_of u ta y w h ht2 hkz2)
  have HQ := Lib.hid (fun w h => quotasI_of x l w h)
  have HO := Lib.hid (fun w h h' => overI_of u x ta l w h h' ht2 hkz2)
  obtain ⟨A, cap, rfl⟩ := h.shape
  obtain ⟨A1, cap1, rfl⟩ := h2.shape
  obtain ⟨A2, cap2, rfl⟩ := hq.shape
  clear h h2 hq
  rcases and3 (treeB tb) (treeB ta) (quotaB l) with g1 | ⟨g1, g2⟩ | ⟨g1, g2, g3⟩ | ⟨g1, g2, g3⟩
  · have hr := Lib.hid (show allowB tb ta l = false by unfold allowB; rw [g1]; rfl)
    rw [g1] at HTb
    clear g1
    go_enter Try.func37, Try.ntmps37
    go_wp2_with fail
    refine (HTb.out _ H.out).mono ?_
    rintro e w1 ⟨rfl, b1⟩
    have B1 := Lib.hid b1
    clear b1
    go_wp2
    go_ret
    exact ⟨by rw [hr.out]; rfl, B1.out⟩
  · have hr := Lib.hid (show allowB tb ta l = false by unfold allowB; rw [g1, g2]; rfl)
    rw [g1] at HTb
    rw [g2] at HTa
    clear g1 g2
    go_enter Try.func37, Try.ntmps37
    go_wp2_with fail
    refine (HTb.out _ H.out).mono ?_
    rintro e w1 ⟨rfl, b1⟩
    have B1 := Lib.hid b1
    clear b1
    go_wp2_with fail
    refine (HTa.out _ (HA.out.below B1.out)).mono ?_
    rintro e w2 ⟨rfl, b2⟩
    have B2 := Lib.hid (Below.step b2 B1.out.size B1.out)
    clear b2
    go_wp2
    go_ret
    exact ⟨by rw [hr.out]; rfl, B2.out⟩
  · have hr := Lib.hid (show allowB tb ta l = false by unfold allowB; rw [g1, g2, g3]; rfl)
    rw [g1] at HTb
    rw [g2] at HTa
    rw [g3] at HQ
    clear g1 g2 g3
    go_enter Try.func37, Try.ntmps37
    go_wp2_with fail
    refine (HTb.out _ H.out).mono ?_
    rintro e w1 ⟨rfl, b1⟩
    have B1 := Lib.hid b1
    clear b1
    go_wp2_with fail
    refine (HTa.out _ (HA.out.below B1.out)).mono ?_
    rintro e w2 ⟨rfl, b2⟩
    have B2 := Lib.hid (Below.step b2 B1.out.size B1.out)
    clear b2
    go_wp2_with fail
    refine (HQ.out _ (HL.out.below B2.out)).mono ?_
    rintro e w3 ⟨rfl, b3⟩
    have B3 := Lib.hid (Below.step b3 B2.out.size B2.out)
    clear b3
    go_wp2
    go_ret
    exact ⟨by rw [hr.out]; rfl, B3.out⟩
  · have hr := Lib.hid (show allowB tb ta l = (overF ta l).all (fun u => !grewB tb ta u) by unfold allowB; rw [g1, g2, g3]; rfl)
    rw [g1] at HTb
    rw [g2] at HTa
    rw [g3] at HQ
    clear g1 g2 g3
    go_enter Try.func37, Try.ntmps37
    go_wp2_with fail
    refine (HTb.out _ H.out).mono ?_
    rintro e w1 ⟨rfl, b1⟩
    have B1 := Lib.hid b1
    clear b1
    go_wp2_with fail
    refine (HTa.out _ (HA.out.below B1.out)).mono ?_
    rintro e w2 ⟨rfl, b2⟩
    have B2 := Lib.hid (Below.step b2 B1.out.size B1.out)
    clear b2
    go_wp2_with fail
    refine (HQ.out _ (HL.out.below B2.out)).mono ?_
    rintro e w3 ⟨rfl, b3⟩
    have B3 := Lib.hid (Below.step b3 B2.out.size B2.out)
    clear b3
    go_wp2_with fail
    refine (HO.out _ (HA.out.below B3.out) (HL.out.below B3.out)).mono ?_
    rintro e w4 ⟨vo, rfl, o4, b4⟩
    have B4 := Lib.hid (Below.step b4 B3.out.size B3.out)
    have SO := Lib.hid (ownG_sl o4)
    have hoc := (ownG_sl o4)
    obtain ⟨A3, cap3, rfl⟩ := ownG_shape o4
    have hcp := hoc.caps
    clear b4 o4 hoc HO HQ HL B1 B2 B3
    generalize overF ta l = os at hr SO hcp
    go_wp2
    go_loopw [30] (fun i wr => ∃ k : Nat, k ≤ os.length ∧ i = .int .i64 k ∧ Below w4.heap.size w4 wr ∧ ∀ j, j < k → grewB tb ta (nthL os j) = false) (fun i _ => os.length - (intOf i).toNat)
    case atStart => exact ⟨0, Nat.zero_le _, rfl, Below.refl _ _, fun j hj => by omega⟩
    case round =>
      obtain ⟨k, hk, rfl, hB, hall⟩ := hrel
      have HB := Lib.hid hB
      have Hall := Lib.hid hall
      have HBw := Lib.hid (Below.step hB B4.out.size B4.out)
      by_cases hlt : k < os.length
      · obtain ⟨b1, o1, rfl, hb1, q1⟩ := (SO.out.below hB).at_ (nthL_at hlt)
        have c1 : wr.cell? ⟨b1, o1 + k, none⟩ = some (.int .i64 (nthL os k)) := by have := q1 0 _ rfl; simpa [EI] using this
        have hlt' : (k : Int) < (os.length : Int) := by omega
        have zk : IntKind.i64.wrap ((k : Int) + 1) = (k : Int) + 1 := IntWalk.i64_in _ (by omega)
        have hbad := fun h => all_nth (p := fun u => !grewB tb ta u) hlt h
        have hx : ∀ x, grewB tb ta (nthL os k) = x ↔ (decide ((usageF tb (nthL os k)).1 < (usageF ta (nthL os k)).1) || decide ((usageF tb (nthL os k)).2 < (usageF ta (nthL os k)).2)) = x := fun x => Iff.rfl
        have Hx := Lib.hid hx
        have Hgo := Lib.hid (fun (h : grewB tb ta (nthL os k) = false) (m : Nat) (hm : m < k + 1) => show grewB tb ta (nthL os m) = false by
          by_cases e : m = k
          · subst e; exact h
          · exact Hall.out m (by omega))
        have Hbad := Lib.hid hbad
        have hub := fun w h => HUb.out (nthL os k) w h
        have hua := fun w h => HUa.out (nthL os k) w h
        generalize grewB tb ta (nthL os k) = gb at Hx Hgo Hbad
        generalize usageF tb (nthL os k) = ub at Hx hub
        generalize usageF ta (nthL os k) = ua at Hx hua
        generalize nthL os k = y at c1 hub hua
        obtain ⟨n1, n2⟩ := ub
        obtain ⟨m1, m2⟩ := ua
        simp only at hub hua Hx
        have KUb := Lib.hid hub
        have KUa := Lib.hid hua
        clear hB hall q1 hbad hx hub hua
        by_cases s1 : n1 < m1
        · have hg := (Hx.out true).2 (by rw [decide_eq_true s1]; rfl)
          subst hg
          have hb := Lib.hid (hr.out.trans (Hbad.out rfl))
          have s1d : decide (n1 < m1) = true := decide_eq_true s1
          clear Hx Hgo Hbad
          go_wp2_with fail
          refine (KUb.out _ (H.out.below HBw.out)).mono ?_
          rintro e w5 ⟨rfl, b5⟩
          have B5 := Lib.hid (Below.step b5 HBw.out.size HBw.out)
          have c5 := (b5.cell (p := ⟨b1, o1 + k, none⟩) hb1).trans c1
          clear b5
          go_wp2_with fail
          refine (KUa.out _ (HA.out.below B5.out)).mono ?_
          rintro e w6 ⟨rfl, b6⟩
          have B6 := Lib.hid (Below.step b6 B5.out.size B5.out)
          clear b6
          go_wp2
          go_ret
          exact ⟨by rw [hb.out]; rfl, B6.out⟩
        · have s1d : decide (n1 < m1) = false := decide_eq_false s1
          by_cases s2 : n2 < m2
          · have hg := (Hx.out true).2 (by rw [decide_eq_true s2]; simp)
            subst hg
            have hb := Lib.hid (hr.out.trans (Hbad.out rfl))
            have s2d : decide (n2 < m2) = true := decide_eq_true s2
            clear Hx Hgo Hbad
            go_wp2_with fail
            refine (KUb.out _ (H.out.below HBw.out)).mono ?_
            rintro e w5 ⟨rfl, b5⟩
            have B5 := Lib.hid (Below.step b5 HBw.out.size HBw.out)
            have c5 := (b5.cell (p := ⟨b1, o1 + k, none⟩) hb1).trans c1
            clear b5
            go_wp2_with fail
            refine (KUa.out _ (HA.out.below B5.out)).mono ?_
            rintro e w6 ⟨rfl, b6⟩
            have B6 := Lib.hid (Below.step b6 B5.out.size B5.out)
            clear b6
            go_wp2
            go_ret
            exact ⟨by rw [hb.out]; rfl, B6.out⟩
          · have hg := (Hx.out false).2 (by rw [decide_eq_false s1, decide_eq_false s2]; rfl)
            subst hg
            have s2d : decide (n2 < m2) = false := decide_eq_false s2
            have hgo := Lib.hid (Hgo.out rfl)
            clear Hx Hgo Hbad
            go_wp2_with fail
            refine (KUb.out _ (H.out.below HBw.out)).mono ?_
            rintro e w5 ⟨rfl, b5⟩
            have B5 := Lib.hid (Below.step b5 HBw.out.size HBw.out)
            have B5r := Lib.hid (Below.step b5 HB.out.size HB.out)
            have c5 := (b5.cell (p := ⟨b1, o1 + k, none⟩) hb1).trans c1
            clear b5
            go_wp2_with fail
            refine (KUa.out _ (HA.out.below B5.out)).mono ?_
            rintro e w6 ⟨rfl, b6⟩
            have B6 := Lib.hid (Below.step b6 B5r.out.size B5r.out)
            clear b6
            go_wp2
            go_roundw
            case rel => exact ⟨k + 1, hlt, by go_num, B6.out, hgo.out⟩
            case measure => simp [intOf]; omega
      · obtain rfl : k = os.length := by omega
        have ha := Lib.hid (hr.out.trans (all_end Hall.out))
        clear hB hall
        go_wp2
        go_ret
        exact ⟨by rw [ha.out]; rfl, HBw.out⟩
set_option maxRecDepth 100000 in
set_option maxHeartbeats 8000000 in
theorem allowS_of (v u x : Value) (tb ta : List Nd) (l : List Q3) (w : World) (h : TreeR w v tb) (h2 : TreeR w u ta) (hq : SlG EQ w x l) (ht : tb.length ≤ 1000) (hkz : (kidsOf tb).length ≤ 1000000) (ht2 : ta.length ≤ 1000) (hkz2 : (kidsOf ta).length ≤ 1000000) :
    Calls Try.prog 38 #[v, u, x] w fun e w' => e = .returned (.bool (allowB tb ta l)) ∧ Below w.heap.size w w' := by
  have H := Lib.hid h
  have HA := Lib.hid h2
  have HL := Lib.hid hq
  have HTb := Lib.hid (fun w h => treeS_of v tb w h ht hkz)
  have HTa := Lib.hid (fun w h => treeS_of u ta w h ht2 hkz2)
  have HUb := Lib.hid (fun y w h => usageS_of v tb y w h ht hkz)
  have HUa := Lib.hid (fun y w h => usageS_of u ta y w h ht2 hkz2)
  have HQ := Lib.hid (fun w h => quotasS_of x l w h)
  have HO := Lib.hid (fun w h h' => overS_of u x ta l w h h' ht2 hkz2)
  obtain ⟨A, cap, rfl⟩ := h.shape
  obtain ⟨A1, cap1, rfl⟩ := h2.shape
  obtain ⟨A2, cap2, rfl⟩ := hq.shape
  clear h h2 hq
  rcases and3 (treeB tb) (treeB ta) (quotaB l) with g1 | ⟨g1, g2⟩ | ⟨g1, g2, g3⟩ | ⟨g1, g2, g3⟩
  · have hr := Lib.hid (show allowB tb ta l = false by unfold allowB; rw [g1]; rfl)
    rw [g1] at HTb
    clear g1
    go_enter Try.func38, Try.ntmps38
    go_wp2_with fail
    refine (HTb.out _ H.out).mono ?_
    rintro e w1 ⟨rfl, b1⟩
    have B1 := Lib.hid b1
    clear b1
    go_wp2
    go_ret
    exact ⟨by rw [hr.out]; rfl, B1.out⟩
  · have hr := Lib.hid (show allowB tb ta l = false by unfold allowB; rw [g1, g2]; rfl)
    rw [g1] at HTb
    rw [g2] at HTa
    clear g1 g2
    go_enter Try.func38, Try.ntmps38
    go_wp2_with fail
    refine (HTb.out _ H.out).mono ?_
    rintro e w1 ⟨rfl, b1⟩
    have B1 := Lib.hid b1
    clear b1
    go_wp2_with fail
    refine (HTa.out _ (HA.out.below B1.out)).mono ?_
    rintro e w2 ⟨rfl, b2⟩
    have B2 := Lib.hid (Below.step b2 B1.out.size B1.out)
    clear b2
    go_wp2
    go_ret
    exact ⟨by rw [hr.out]; rfl, B2.out⟩
  · have hr := Lib.hid (show allowB tb ta l = false by unfold allowB; rw [g1, g2, g3]; rfl)
    rw [g1] at HTb
    rw [g2] at HTa
    rw [g3] at HQ
    clear g1 g2 g3
    go_enter Try.func38, Try.ntmps38
    go_wp2_with fail
    refine (HTb.out _ H.out).mono ?_
    rintro e w1 ⟨rfl, b1⟩
    have B1 := Lib.hid b1
    clear b1
    go_wp2_with fail
    refine (HTa.out _ (HA.out.below B1.out)).mono ?_
    rintro e w2 ⟨rfl, b2⟩
    have B2 := Lib.hid (Below.step b2 B1.out.size B1.out)
    clear b2
    go_wp2_with fail
    refine (HQ.out _ (HL.out.below B2.out)).mono ?_
    rintro e w3 ⟨rfl, b3⟩
    have B3 := Lib.hid (Below.step b3 B2.out.size B2.out)
    clear b3
    go_wp2
    go_ret
    exact ⟨by rw [hr.out]; rfl, B3.out⟩
  · have hr := Lib.hid (show allowB tb ta l = (overF ta l).all (fun u => !grewB tb ta u) by unfold allowB; rw [g1, g2, g3]; rfl)
    rw [g1] at HTb
    rw [g2] at HTa
    rw [g3] at HQ
    clear g1 g2 g3
    go_enter Try.func38, Try.ntmps38
    go_wp2_with fail
    refine (HTb.out _ H.out).mono ?_
    rintro e w1 ⟨rfl, b1⟩
    have B1 := Lib.hid b1
    clear b1
    go_wp2_with fail
    refine (HTa.out _ (HA.out.below B1.out)).mono ?_
    rintro e w2 ⟨rfl, b2⟩
    have B2 := Lib.hid (Below.step b2 B1.out.size B1.out)
    clear b2
    go_wp2_with fail
    refine (HQ.out _ (HL.out.below B2.out)).mono ?_
    rintro e w3 ⟨rfl, b3⟩
    have B3 := Lib.hid (Below.step b3 B2.out.size B2.out)
    clear b3
    go_wp2_with fail
    refine (HO.out _ (HA.out.below B3.out) (HL.out.below B3.out)).mono ?_
    rintro e w4 ⟨vo, rfl, o4, b4⟩
    have B4 := Lib.hid (Below.step b4 B3.out.size B3.out)
    have SO := Lib.hid (ownG_sl o4)
    have hoc := (ownG_sl o4)
    obtain ⟨A3, cap3, rfl⟩ := ownG_shape o4
    have hcp := hoc.caps
    clear b4 o4 hoc HO HQ HL B1 B2 B3
    generalize overF ta l = os at hr SO hcp
    go_wp2
    go_loopw [8] (fun i wr => ∃ k : Nat, k ≤ os.length ∧ i = .int .i64 k ∧ Below w4.heap.size w4 wr ∧ ∀ j, j < k → grewB tb ta (nthL os j) = false) (fun i _ => os.length - (intOf i).toNat)
    case atStart => exact ⟨0, Nat.zero_le _, rfl, Below.refl _ _, fun j hj => by omega⟩
    case round =>
      obtain ⟨k, hk, rfl, hB, hall⟩ := hrel
      have HB := Lib.hid hB
      have Hall := Lib.hid hall
      have HBw := Lib.hid (Below.step hB B4.out.size B4.out)
      by_cases hlt : k < os.length
      · obtain ⟨b1, o1, rfl, hb1, q1⟩ := (SO.out.below hB).at_ (nthL_at hlt)
        have c1 : wr.cell? ⟨b1, o1 + k, none⟩ = some (.int .i64 (nthL os k)) := by have := q1 0 _ rfl; simpa [EI] using this
        have hlt' : (k : Int) < (os.length : Int) := by omega
        have zk : IntKind.i64.wrap ((k : Int) + 1) = (k : Int) + 1 := IntWalk.i64_in _ (by omega)
        have hbad := fun h => all_nth (p := fun u => !grewB tb ta u) hlt h
        have hx : ∀ x, grewB tb ta (nthL os k) = x ↔ (decide ((usageF tb (nthL os k)).1 < (usageF ta (nthL os k)).1) || decide ((usageF tb (nthL os k)).2 < (usageF ta (nthL os k)).2)) = x := fun x => Iff.rfl
        have Hx := Lib.hid hx
        have Hgo := Lib.hid (fun (h : grewB tb ta (nthL os k) = false) (m : Nat) (hm : m < k + 1) => show grewB tb ta (nthL os m) = false by
          by_cases e : m = k
          · subst e; exact h
          · exact Hall.out m (by omega))
        have Hbad := Lib.hid hbad
        have hub := fun w h => HUb.out (nthL os k) w h
        have hua := fun w h => HUa.out (nthL os k) w h
        generalize grewB tb ta (nthL os k) = gb at Hx Hgo Hbad
        generalize usageF tb (nthL os k) = ub at Hx hub
        generalize usageF ta (nthL os k) = ua at Hx hua
        generalize nthL os k = y at c1 hub hua
        obtain ⟨n1, n2⟩ := ub
        obtain ⟨m1, m2⟩ := ua
        simp only at hub hua Hx
        have KUb := Lib.hid hub
        have KUa := Lib.hid hua
        clear hB hall q1 hbad hx hub hua
        by_cases s1 : n1 < m1
        · have hg := (Hx.out true).2 (by rw [decide_eq_true s1]; rfl)
          subst hg
          have hb := Lib.hid (hr.out.trans (Hbad.out rfl))
          have s1d : decide (n1 < m1) = true := decide_eq_true s1
          clear Hx Hgo Hbad
          go_wp2_with fail
          refine (KUb.out _ (H.out.below HBw.out)).mono ?_
          rintro e w5 ⟨rfl, b5⟩
          have B5 := Lib.hid (Below.step b5 HBw.out.size HBw.out)
          have c5 := (b5.cell (p := ⟨b1, o1 + k, none⟩) hb1).trans c1
          clear b5
          go_wp2_with fail
          refine (KUa.out _ (HA.out.below B5.out)).mono ?_
          rintro e w6 ⟨rfl, b6⟩
          have B6 := Lib.hid (Below.step b6 B5.out.size B5.out)
          clear b6
          go_wp2
          go_ret
          exact ⟨by rw [hb.out]; rfl, B6.out⟩
        · have s1d : decide (n1 < m1) = false := decide_eq_false s1
          by_cases s2 : n2 < m2
          · have hg := (Hx.out true).2 (by rw [decide_eq_true s2]; simp)
            subst hg
            have hb := Lib.hid (hr.out.trans (Hbad.out rfl))
            have s2d : decide (n2 < m2) = true := decide_eq_true s2
            clear Hx Hgo Hbad
            go_wp2_with fail
            refine (KUb.out _ (H.out.below HBw.out)).mono ?_
            rintro e w5 ⟨rfl, b5⟩
            have B5 := Lib.hid (Below.step b5 HBw.out.size HBw.out)
            have c5 := (b5.cell (p := ⟨b1, o1 + k, none⟩) hb1).trans c1
            clear b5
            go_wp2_with fail
            refine (KUa.out _ (HA.out.below B5.out)).mono ?_
            rintro e w6 ⟨rfl, b6⟩
            have B6 := Lib.hid (Below.step b6 B5.out.size B5.out)
            clear b6
            go_wp2
            go_ret
            exact ⟨by rw [hb.out]; rfl, B6.out⟩
          · have hg := (Hx.out false).2 (by rw [decide_eq_false s1, decide_eq_false s2]; rfl)
            subst hg
            have s2d : decide (n2 < m2) = false := decide_eq_false s2
            have hgo := Lib.hid (Hgo.out rfl)
            clear Hx Hgo Hbad
            go_wp2_with fail
            refine (KUb.out _ (H.out.below HBw.out)).mono ?_
            rintro e w5 ⟨rfl, b5⟩
            have B5 := Lib.hid (Below.step b5 HBw.out.size HBw.out)
            have B5r := Lib.hid (Below.step b5 HB.out.size HB.out)
            have c5 := (b5.cell (p := ⟨b1, o1 + k, none⟩) hb1).trans c1
            clear b5
            go_wp2_with fail
            refine (KUa.out _ (HA.out.below B5.out)).mono ?_
            rintro e w6 ⟨rfl, b6⟩
            have B6 := Lib.hid (Below.step b6 B5r.out.size B5r.out)
            clear b6
            go_wp2
            go_roundw
            case rel => exact ⟨k + 1, hlt, by go_num, B6.out, hgo.out⟩
            case measure => simp [intOf]; omega
      · obtain rfl : k = os.length := by omega
        have ha := Lib.hid (hr.out.trans (all_end Hall.out))
        clear hB hall
        go_wp2
        go_ret
        exact ⟨by rw [ha.out]; rfl, HBw.out⟩
end Go.Proofs.Ythcmecgmidopoaa
