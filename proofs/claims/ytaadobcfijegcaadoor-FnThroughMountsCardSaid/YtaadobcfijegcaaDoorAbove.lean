/- Paths: 'AboveOf' of both sides. -/
import Derived.Test.YtaadobcfijegcaaDoorFollowS
import Derived.Deep.RegionHeld3
set_option linter.unusedSimpArgs false
set_option linter.unusedVariables false
set_option linter.unusedSectionVars false
namespace Go.Proofs.YtaadobcfijegcaaDoor
open Go.RowKit

/-- What 'AboveOf' hands back. -/
def AbvGot (w : World) (s : List UInt8) (e : Ending) (w' : World) : Prop := e = .returned (.tuple #[.string (mk (aboveF s)), .string (mk (lastF s)), .bool (aboveOk s)]) ∧ Below w.heap.size w w'
theorem above_no {s : List UInt8} (h : okP s = false ∨ partsP s = []) : aboveF s = [] ∧ lastF s = [] ∧ aboveOk s = false := by
  have hc : ¬ (okP s = true ∧ partsP s ≠ []) := by
    rcases h with h | h
    · rw [h]; simp
    · rw [h]; simp
  refine ⟨by unfold aboveF; rw [if_neg hc], by unfold lastF; rw [if_neg hc], ?_⟩
  unfold aboveOk
  rcases h with h | h
  · rw [h]; rfl
  · rw [h]; simp
theorem lastD_getD : ∀ {ws : List (List UInt8)}, ws ≠ [] → ws.getLastD [] = ws.getD (ws.length - 1) []
  | [], h => absurd rfl h
  | [a], _ => rfl
  | a :: b :: r, _ => by
    have h := lastD_getD (ws := b :: r) (by simp)
    rw [List.getLastD_cons] at h
    rw [List.getLastD_cons, List.getLastD_cons, h]
    rfl
theorem above_yes {s : List UInt8} (h : okP s = true) (hne : partsP s ≠ []) : aboveF s = joinP ((partsP s).take ((partsP s).length - 1)) ∧ lastF s = (partsP s).getD ((partsP s).length - 1) [] ∧ aboveOk s = true := by
  have hc : okP s = true ∧ partsP s ≠ [] := ⟨h, hne⟩
  refine ⟨by unfold aboveF; rw [if_pos hc, List.dropLast_eq_take], ?_, ?_⟩
  · unfold lastF
    rw [if_pos hc]
    exact lastD_getD hne
  · unfold aboveOk
    rw [h]
    cases hp : partsP s with
    | nil => exact absurd hp hne
    | cons a r => rfl
set_option maxRecDepth 100000 in
set_option maxHeartbeats 1000000 in
theorem aboveS_of (S : ByteArray) (w : World) (hs : S.size ≤ 1048576) : Calls Tryd.prog 31 #[.string S] w (AbvGot w S.data.toList) := by
  have h1 := pathPartsS_of S w hs
  have hs' : S.data.toList.length ≤ 1048576 := by rw [size_list]; exact hs
  generalize S.data.toList = s at h1 hs' ⊢
  have h6 := partsP_len s
  have hps := partsP_sizes s
  by_cases hno : okP s = false ∨ partsP s = []
  · obtain ⟨k1, k2, k3⟩ := above_no hno
    unfold AbvGot
    rw [k1, k2, k3]
    have hcase : okP s = false ∨ (okP s = true ∧ (partsP s).length = 0) := by
      rcases hno with h | h
      · exact .inl h
      · cases hk : okP s
        · exact .inl rfl
        · exact .inr ⟨rfl, by rw [h]; rfl⟩
    clear k1 k2 k3 hno hps
    rcases hcase with e1 | ⟨e1, e2⟩
    all_goals
      go_enter Tryd.func31, Tryd.ntmps31
      go_wp2_with fail
      refine h1.mono ?_
      rintro e w1 ⟨v1, rfl, o1, b1⟩
      obtain ⟨A, c, rfl⟩ := own_valm o1
      rw [e1]
      go_wp2
      go_ret3
      exact ⟨rfl, b1⟩
  · have e1 : okP s = true := by cases h : okP s; exact absurd (.inl h) hno; rfl
    have hne : partsP s ≠ [] := fun e => hno (.inr e)
    obtain ⟨k1, k2, k3⟩ := above_yes e1 hne
    unfold AbvGot
    rw [k1, k2, k3]
    have hlp : 0 < (partsP s).length := List.length_pos_iff.2 hne
    clear k1 k2 k3 hno hne
    obtain ⟨ps, hps0⟩ : ∃ ps, ps = partsP s := ⟨_, rfl⟩
    rw [← hps0] at h6 hps hlp ⊢
    have Hps0 := Lib.hid hps0; clear hps0
    have h6' : (ps.take (ps.length - 1)).length ≤ 1048600 := by rw [List.length_take]; omega
    have hsz : ∀ x ∈ ps.take (ps.length - 1), x.length ≤ 1048576 := fun x hx => by have := hps x (List.mem_of_mem_take hx); omega
    go_enter Tryd.func31, Tryd.ntmps31
    go_wp2_with fail
    refine h1.mono ?_
    rintro e w1 ⟨v1, rfl, o1, b1⟩
    rw [← Hps0.out] at o1
    have s1 := ownS_sl o1
    obtain ⟨A, c, rfl⟩ := own_valm o1
    obtain ⟨b, off, rfl, hb, cw⟩ := slS_at s1 (k := ps.length - 1) (by omega)
    have hcap := slS_cap s1
    have hc1 := hcap.2.1
    have hc2 := hcap.2.2
    clear hcap
    have hj := fun n => quiet_same (joinS_of (.slice (some ⟨b, off, none⟩) (ps.length - 1) c) (ps.take (ps.length - 1)) (w1.drewN n) (by rw [List.map_take]; exact slS_take (s1.below (below_drewN (Below.refl _ _) n)) (by rw [List.length_map]; omega)) h6' hsz)
    generalize hy : mk (joinP (ps.take (ps.length - 1))) = y at hj
    generalize hx : mk (ps.getD (ps.length - 1) []) = x at cw
    have Hy := Lib.hid hy
    have Hx := Lib.hid hx
    clear hx hy
    have Hj := Lib.hid hj
    have z1 : IntKind.i64.wrap ((ps.length : Int) - 1) = (ps.length : Int) - 1 := IntWalk.i64_in _ (by omega)
    have hz : ((ps.length - 1 : Nat) : Int) = (ps.length : Int) - 1 := by omega
    have hz0 : ¬ (ps.length : Int) = 0 := by omega
    have hq1 : (0 : Int) ≤ (ps.length : Int) - 1 := by omega
    have hq2 : (ps.length : Int) - 1 ≤ (c : Int) := by omega
    have hq3 : (ps.length : Int) - 1 < (ps.length : Int) := by omega
    have hsz1 : w.heap.size ≤ w1.heap.size := b1.size
    clear s1 o1 hj hps hsz
    rw [e1]
    go_wp2
    go_quiet ((go_at_call 47; exact Hj.out _))
    go_wp2
    go_ret3
    exact ⟨by rw [Hy.out, Hx.out]; rfl, (by (repeat (first | exact Below.refl _ _ | exact Hbl.out | refine Below.ext ?_ (by first | omega | (simp; omega) | simp) | refine Below.setCell ?_ (by first | omega | (simp; omega) | simp) _ | refine Below.alloc ?_ (by first | omega | (simp; omega) | simp) _ | refine Below.drew ?_ | refine below_drewN ?_ _ | refine Below.step (by assumption) (by first | omega | (simp; omega) | simp) ?_)))⟩
set_option maxRecDepth 100000 in
set_option maxHeartbeats 1000000 in
theorem aboveI_of (S : ByteArray) (w : World) (hm : MaxL w) (hs : S.size ≤ 1048576) : Calls Tryd.prog 30 #[.string S] w (AbvGot w S.data.toList) := by
  have h1 := pathPartsI_of S w hm hs
  have hs' : S.data.toList.length ≤ 1048576 := by rw [size_list]; exact hs
  generalize S.data.toList = s at h1 hs' ⊢
  have h6 := partsP_len s
  have hps := partsP_sizes s
  by_cases hno : okP s = false ∨ partsP s = []
  · obtain ⟨k1, k2, k3⟩ := above_no hno
    unfold AbvGot
    rw [k1, k2, k3]
    have hcase : okP s = false ∨ (okP s = true ∧ (partsP s).length = 0) := by
      rcases hno with h | h
      · exact .inl h
      · cases hk : okP s
        · exact .inl rfl
        · exact .inr ⟨rfl, by rw [h]; rfl⟩
    clear k1 k2 k3 hno hps
    rcases hcase with e1 | ⟨e1, e2⟩
    all_goals
      go_enter Tryd.func30, Tryd.ntmps30
      go_wp2_with fail
      refine h1.mono ?_
      rintro e w1 ⟨v1, rfl, o1, b1⟩
      obtain ⟨A, c, rfl⟩ := own_valm o1
      rw [e1]
      go_wp2
      go_ret3
      exact ⟨rfl, b1⟩
  · have e1 : okP s = true := by cases h : okP s; exact absurd (.inl h) hno; rfl
    have hne : partsP s ≠ [] := fun e => hno (.inr e)
    obtain ⟨k1, k2, k3⟩ := above_yes e1 hne
    unfold AbvGot
    rw [k1, k2, k3]
    have hlp : 0 < (partsP s).length := List.length_pos_iff.2 hne
    clear k1 k2 k3 hno hne
    obtain ⟨ps, hps0⟩ : ∃ ps, ps = partsP s := ⟨_, rfl⟩
    rw [← hps0] at h6 hps hlp ⊢
    have Hps0 := Lib.hid hps0; clear hps0
    have h6' : (ps.take (ps.length - 1)).length ≤ 1048600 := by rw [List.length_take]; omega
    have hsz : ∀ x ∈ ps.take (ps.length - 1), x.length ≤ 1048576 := fun x hx => by have := hps x (List.mem_of_mem_take hx); omega
    go_enter Tryd.func30, Tryd.ntmps30
    go_wp2_with fail
    refine h1.mono ?_
    rintro e w1 ⟨v1, rfl, o1, b1⟩
    rw [← Hps0.out] at o1
    have s1 := ownS_sl o1
    obtain ⟨n, hn⟩ : ∃ n, ps.length = n + 1 := ⟨ps.length - 1, by omega⟩
    obtain ⟨A, c, ev⟩ := own_valm o1
    rw [hn] at ev
    subst ev
    obtain ⟨b, off, rfl, hb, cw⟩ := slS_at s1 (k := n) (by omega)
    have hcap := slS_cap s1
    have hc1 := hcap.2.1
    have hc2 := hcap.2.2
    clear hcap
    have hn1 : ps.length - 1 = n := by omega
    have Hn1 := Lib.hid hn1
    have hj := fun W (hW : Below w1.heap.size w1 W) => joinI_of (.slice (some ⟨b, off, none⟩) n c) (ps.take n) W (by rw [List.map_take]; exact slS_take (s1.below hW) (by rw [List.length_map]; omega)) (by rw [← hn1]; exact hsz)
    generalize hy : mk (joinP (ps.take n)) = y at hj
    generalize hx : mk (ps.getD n []) = x at cw
    have Hy := Lib.hid hy
    have Hx := Lib.hid hx
    clear hx hy
    have Hj := Lib.hid hj
    rw [hn] at hc1 h6 hlp
    have hnc : (n : Int) ≤ (c : Int) := by omega
    have hnn : (n : Int) < (n : Int) + 1 := by omega
    have hnl : ¬ (n : Int) < 0 := by omega
    have hsz1 : w.heap.size ≤ w1.heap.size := b1.size
    clear s1 o1 hj hps hsz hn hn1 h6'
    rw [e1]
    go_wp2
    go_region_held3 (fun w' => w'.cell? ⟨b, off + n, none⟩ = some (.string x)) (first | assumption | (go_simp; done)) (first | (go_at_call 49; refine (Hj.out _ ?_).mono ?_; (focus ((repeat (first | exact Below.refl _ _ | exact Hbl.out | refine Below.ext ?_ (by first | omega | (simp; omega) | simp) | refine Below.setCell ?_ (by first | omega | (simp; omega) | simp) _ | refine Below.alloc ?_ (by first | omega | (simp; omega) | simp) _ | refine Below.drew ?_ | refine below_drewN ?_ _ | refine Below.step (by assumption) (by first | omega | (simp; omega) | simp) ?_)))); rintro e w2 ⟨rfl, b2⟩; have cx := b2.cell (p := ⟨b, off + n, none⟩) hb))
    go_wp2
    go_ret3
    exact ⟨by rw [Hn1.out, Hy.out, Hx.out]; rfl, (by (repeat (first | exact Below.refl _ _ | exact Hbl.out | refine Below.ext ?_ (by first | omega | (simp; omega) | simp) | refine Below.setCell ?_ (by first | omega | (simp; omega) | simp) _ | refine Below.alloc ?_ (by first | omega | (simp; omega) | simp) _ | refine Below.drew ?_ | refine below_drewN ?_ _ | refine Below.step (by assumption) (by first | omega | (simp; omega) | simp) ?_)))⟩
end Go.Proofs.YtaadobcfijegcaaDoor
