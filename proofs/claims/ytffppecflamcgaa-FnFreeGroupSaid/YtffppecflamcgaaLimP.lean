/- Limits: the plain laws. -/
import Derived.Test.YtffppecflamcgaaUse
set_option linter.unusedSimpArgs false
set_option linter.unusedVariables false
set_option linter.unusedSectionVars false
namespace Go.Proofs.Ytffppecflamcgaa
open Go.RowKit

/-- Group i is n or above it. -/
def inCh (l : List T3) : Nat → Int → Nat → Bool
  | 0, _, _ => false
  | g + 1, n, i => if n < 0 then false else (decide (i = n.toNat) || inCh l g (ti l n.toNat).1 i)
theorem inCh_neg (l : List T3) {n : Int} (h : n < 0) (i : Nat) : ∀ g, inCh l g n i = false
  | 0 => rfl
  | g + 1 => by unfold inCh; rw [if_pos h]
theorem inCh_step (l : List T3) (g k i : Nat) : inCh l (g + 1) (k : Int) i = (decide (i = k) || inCh l g (ti l k).1 i) := by
  show (if (k : Int) < 0 then false else (decide (i = (k : Int).toNat) || inCh l g (ti l (k : Int).toNat).1 i)) = _
  rw [if_neg (by omega)]; rfl
section
variable {l : List T3}
/-- All limits alone are right. -/
def AllOk (l : List T3) : Prop := ∀ k, k < l.length → limOk l k = true
theorem AllOk.above (h : AllOk l) {k : Nat} (hk : k < l.length) : (ti l k).1 ≤ (k : Int) - 1 := (limOk_iff.1 (h k hk)).1.2
theorem inCh_above (h : AllOk l) : ∀ (g : Nat) (m : Int) (i : Nat), m < (l.length : Int) → m < (i : Int) → inCh l g m i = false
  | 0, _, _, _, _ => rfl
  | g + 1, m, i, h1, h2 => by
    by_cases hm : m < 0
    · exact inCh_neg l hm i _
    · obtain ⟨k, rfl⟩ := Int.eq_ofNat_of_zero_le (by omega : 0 ≤ m)
      have := h.above (k := k) (by omega)
      rw [inCh_step, inCh_above h g _ i (by omega) (by omega), decide_eq_false (by omega)]; rfl
theorem upF_in (h : AllOk l) (d : Int) : ∀ (g : Nat) (m : Int) (f : Nat → T3) (i : Nat), m < (l.length : Int) → upF l d g m f i = ((f i).1, (f i).2.1, (f i).2.2 + if inCh l g m i = true then d else 0)
  | 0, _, f, i, _ => by simp [upF, inCh]
  | g + 1, m, f, i, h1 => by
    by_cases hm : m < 0
    · rw [upF_neg l hm, inCh_neg l hm]; simp
    · obtain ⟨k, rfl⟩ := Int.eq_ofNat_of_zero_le (by omega : 0 ≤ m)
      have ha := h.above (k := k) (by omega)
      rw [upF_step, upF_in h d g _ _ i (by omega), inCh_step]
      by_cases e : i = k
      · subst e
        rw [inCh_above h g _ i (by omega) (by omega)]
        simp [addUse, upd]
      · simp [addUse, upd, e]
theorem chg_ti (h : AllOk l) {n d : Int} {i : Nat} (h1 : n < (l.length : Int)) (hi : i < l.length) : ti (chgL l n d) i = ((ti l i).1, (ti l i).2.1, (ti l i).2.2 + if inCh l l.length n i = true then d else 0) := by
  rw [chgL_at hi, upF_in h d _ _ _ _ h1]
theorem inCh_up (h : AllOk l) : ∀ (g : Nat) (n : Int) (j k : Nat), n < (l.length : Int) → n < (g : Int) → inCh l g n j = true → (ti l j).1 = (k : Int) → inCh l g n k = true
  | 0, _, _, _, _, _, h3, _ => by cases h3
  | g + 1, n, j, k, h1, h2, h3, h4 => by
    by_cases hm : n < 0
    · rw [inCh_neg l hm] at h3; cases h3
    · obtain ⟨m, rfl⟩ := Int.eq_ofNat_of_zero_le (by omega : 0 ≤ n)
      have ha := h.above (k := m) (by omega)
      rw [inCh_step] at h3 ⊢
      by_cases e : j = m
      · subst e
        rw [h4] at ha ⊢
        obtain ⟨g', rfl⟩ : ∃ g', g = g' + 1 := ⟨g - 1, by omega⟩
        rw [inCh_step, decide_eq_true (rfl : k = k)]; simp
      · rw [decide_eq_false e, Bool.false_or] at h3
        rw [inCh_up h g _ j k (by omega) (by omega) h3 h4, Bool.or_true]
theorem inCh_two (h : AllOk l) : ∀ (g : Nat) (n : Int) (i j : Nat), n < (l.length : Int) → inCh l g n i = true → inCh l g n j = true → i < j → (i : Int) ≤ (ti l j).1
  | 0, _, _, _, _, h2, _, _ => by cases h2
  | g + 1, n, i, j, h1, h2, h3, h4 => by
    by_cases hm : n < 0
    · rw [inCh_neg l hm] at h3; cases h3
    · obtain ⟨m, rfl⟩ := Int.eq_ofNat_of_zero_le (by omega : 0 ≤ n)
      have ha := h.above (k := m) (by omega)
      rw [inCh_step] at h2 h3
      by_cases e : j = m
      · subst e
        rw [decide_eq_false (by omega), Bool.false_or] at h2
        refine Int.not_lt.1 fun hlt => ?_
        rw [inCh_above h g _ i (by omega) hlt] at h2; cases h2
      · rw [decide_eq_false e, Bool.false_or] at h3
        by_cases e2 : i = m
        · subst e2
          rw [inCh_above h g _ j (by omega) (by omega)] at h3; cases h3
        · rw [decide_eq_false e2, Bool.false_or] at h2
          exact inCh_two h g _ i j (by omega) h2 h3 h4
/-- How many of the first m that are directly above by k lie in the chain. -/
def pc (l : List T3) (n : Int) : Nat → Nat → Int
  | 0, _ => 0
  | m + 1, k => pc l n m k + (if (ti l m).1 = (k : Int) ∧ inCh l l.length n m = true then 1 else 0)
theorem ps_chg (h : AllOk l) {n d : Int} (h1 : n < (l.length : Int)) (k : Nat) : ∀ m, m ≤ l.length → ps (chgL l n d) m k = ps l m k + d * pc l n m k
  | 0, _ => by simp [ps, pc]
  | m + 1, hm => by
    simp only [ps, pc]
    rw [ps_chg h h1 k m (by omega), chg_ti h h1 (by omega)]
    by_cases e : (ti l m).1 = (k : Int)
    · by_cases e2 : inCh l l.length n m = true
      · simp only [e, e2, and_self, if_true]
        rw [Int.mul_add]; omega
      · simp only [e, e2, and_false, if_true, if_false]
        rw [Int.mul_add]; simp; omega
    · simp only [e, false_and, if_false]; simp
theorem pc_one (h : AllOk l) {n : Int} (h1 : n < (l.length : Int)) (k : Nat) : ∀ m, m ≤ l.length → pc l n m k = 0 ∨ (pc l n m k = 1 ∧ ∃ j, j < m ∧ (ti l j).1 = (k : Int) ∧ inCh l l.length n j = true)
  | 0, _ => .inl rfl
  | m + 1, hm => by
    simp only [pc]
    by_cases e : (ti l m).1 = (k : Int) ∧ inCh l l.length n m = true
    · rw [if_pos e]
      rcases pc_one h h1 k m (by omega) with h0 | ⟨_, j, hj, e1, e2⟩
      · exact .inr ⟨by omega, m, by omega, e⟩
      · have := inCh_two h l.length n j m h1 e2 e.2 hj
        have ha := h.above (k := j) (by omega)
        omega
    · rw [if_neg e]
      rcases pc_one h h1 k m (by omega) with h0 | ⟨h0, j, hj, e1⟩
      · exact .inl (by omega)
      · exact .inr ⟨by omega, j, by omega, e1⟩
theorem roomUp_ch (h : AllOk l) : ∀ (g : Nat) (n r : Int) (i : Nat), n < (l.length : Int) → inCh l g n i = true → roomUp l g n r ≤ (ti l i).2.1 - (ti l i).2.2
  | 0, _, _, _, _, h2 => by cases h2
  | g + 1, n, r, i, h1, h2 => by
    by_cases hm : n < 0
    · rw [inCh_neg l hm] at h2; cases h2
    · obtain ⟨m, rfl⟩ := Int.eq_ofNat_of_zero_le (by omega : 0 ≤ n)
      have ha := h.above (k := m) (by omega)
      rw [inCh_step] at h2
      rw [roomUp_step]
      by_cases e : i = m
      · subst e
        exact Int.le_trans (roomUp_le l _ _ _) (Int.min_le_right _ _)
      · rw [decide_eq_false e, Bool.false_or] at h2
        exact roomUp_ch h g _ _ i (by omega) h2
theorem roomUp_ge (h : AllOk l) {d : Int} : ∀ (g : Nat) (n r : Int), n < (l.length : Int) → d ≤ r → (∀ i, i < l.length → inCh l g n i = true → d ≤ (ti l i).2.1 - (ti l i).2.2) → d ≤ roomUp l g n r
  | 0, _, _, _, h2, _ => h2
  | g + 1, n, r, h1, h2, h3 => by
    by_cases hm : n < 0
    · rw [roomUp_neg l hm]; exact h2
    · obtain ⟨m, rfl⟩ := Int.eq_ofNat_of_zero_le (by omega : 0 ≤ n)
      have ha := h.above (k := m) (by omega)
      rw [roomUp_step]
      have h4 := h3 m (by omega) (by rw [inCh_step, decide_eq_true (rfl : m = m)]; rfl)
      exact roomUp_ge h g _ _ (by omega) (by omega) (fun i hi hc => h3 i hi (by rw [inCh_step, hc, Bool.or_true]))
theorem roomUp_fuel (h : AllOk l) : ∀ (f g : Nat) (n r : Int), n < (l.length : Int) → n < (f : Int) → n < (g : Int) → roomUp l f n r = roomUp l g n r
  | 0, g, n, r, _, h2, _ => by rw [roomUp_neg l (by omega), roomUp_neg l (by omega)]
  | f + 1, 0, n, r, _, _, h3 => by rw [roomUp_neg l (by omega), roomUp_neg l (by omega)]
  | f + 1, g + 1, n, r, h1, h2, h3 => by
    by_cases hm : n < 0
    · rw [roomUp_neg l hm, roomUp_neg l hm]
    · obtain ⟨m, rfl⟩ := Int.eq_ofNat_of_zero_le (by omega : 0 ≤ n)
      have ha := h.above (k := m) (by omega)
      rw [roomUp_step, roomUp_step]
      exact roomUp_fuel h f g _ _ (by omega) (by omega) (by omega)
theorem roomUp_mono : ∀ (g : Nat) (n r r' : Int), r ≤ r' → roomUp l g n r ≤ roomUp l g n r'
  | 0, _, _, _, h => h
  | g + 1, n, r, r', h => by
    by_cases hm : n < 0
    · rw [roomUp_neg l hm, roomUp_neg l hm]; exact h
    · obtain ⟨m, rfl⟩ := Int.eq_ofNat_of_zero_le (by omega : 0 ≤ n)
      rw [roomUp_step, roomUp_step]
      exact roomUp_mono g _ _ _ (by omega)
theorem roomOk_iff {n : Int} : roomOk l n = true ↔ limB l = true ∧ 0 ≤ n ∧ n ≤ (l.length : Int) - 1 := by
  unfold roomOk; simp only [Bool.and_eq_true, inB_iff]
theorem allOk_of (h : limB l = true) : AllOk l := (limB_all h).2.1
theorem room_nonneg {n : Int} (h : roomOk l n = true) : 0 ≤ roomF l n := by
  obtain ⟨h1, h2, h3⟩ := roomOk_iff.1 h
  rw [roomF_yes h]
  have ha := allOk_of h1
  refine roomUp_ge ha _ _ _ (by omega) (by omega) fun i hi _ => ?_
  have := limOk_iff.1 (ha i hi)
  omega
theorem room_cases (l : List T3) (n : Int) : (roomOk l n = true ∧ 0 ≤ roomF l n ∧ 0 ≤ n ∧ n ≤ (l.length : Int) - 1) ∨ (roomOk l n = false ∧ roomF l n = -1) := by
  cases h : roomOk l n
  · exact .inr ⟨rfl, roomF_no h⟩
  · obtain ⟨h1, h2, h3⟩ := roomOk_iff.1 h
    exact .inl ⟨rfl, room_nonneg h, h2, h3⟩
theorem room_here {k : Nat} (h : roomOk l (k : Int) = true) : roomF l k ≤ (ti l k).2.1 - (ti l k).2.2 := by
  obtain ⟨h1, h2, h3⟩ := roomOk_iff.1 h
  rw [roomF_yes h]
  refine roomUp_ch (allOk_of h1) _ _ _ _ (by omega) ?_
  obtain ⟨g, hg⟩ : ∃ g, l.length = g + 1 := ⟨l.length - 1, by omega⟩
  rw [hg, inCh_step, decide_eq_true (rfl : k = k)]; rfl
theorem room_up {k : Nat} (h : roomOk l (k : Int) = true) (ha : 0 ≤ (ti l k).1) : roomF l k ≤ roomF l (ti l k).1 := by
  obtain ⟨h1, h2, h3⟩ := roomOk_iff.1 h
  have hall := allOk_of h1
  have hab := hall.above (k := k) (by omega)
  have h' : roomOk l (ti l k).1 = true := roomOk_iff.2 ⟨h1, ha, by omega⟩
  rw [roomF_yes h, roomF_yes h']
  obtain ⟨g, hg⟩ : ∃ g, l.length = g + 1 := ⟨l.length - 1, by omega⟩
  rw [roomUp_fuel hall l.length (g + 1) _ _ (by omega) (by omega) (by omega), roomUp_step, roomUp_fuel hall g l.length _ _ (by omega) (by omega) (by omega)]
  exact roomUp_mono _ _ _ _ (Int.min_le_left _ _)

theorem ti_ext {a b : List T3} (h : a.length = b.length) (h2 : ∀ i, i < a.length → ti a i = ti b i) : a = b := by
  apply List.ext_getElem? 
  intro i
  by_cases hi : i < a.length
  · have := h2 i hi
    unfold ti at this
    rw [List.getD_eq_getElem?_getD, List.getD_eq_getElem?_getD, List.getElem?_eq_getElem hi, List.getElem?_eq_getElem (by omega)] at this
    rw [List.getElem?_eq_getElem hi, List.getElem?_eq_getElem (by omega)]
    simpa using this
  · rw [List.getElem?_eq_none (by omega), List.getElem?_eq_none (by omega)]
theorem inCh_chg (h : AllOk l) {n d : Int} (h1 : n < (l.length : Int)) : ∀ (g : Nat) (m : Int) (i : Nat), m < (l.length : Int) → inCh (chgL l n d) g m i = inCh l g m i
  | 0, _, _, _ => rfl
  | g + 1, m, i, h2 => by
    by_cases hm : m < 0
    · rw [inCh_neg _ hm, inCh_neg _ hm]
    · obtain ⟨k, rfl⟩ := Int.eq_ofNat_of_zero_le (by omega : 0 ≤ m)
      have ha := h.above (k := k) (by omega)
      rw [inCh_step, inCh_step, chg_ti h h1 (by omega)]
      simp only
      rw [inCh_chg h h1 g _ i (by omega)]
theorem chg_back (h : AllOk l) {n d : Int} (h1 : n < (l.length : Int)) (h' : AllOk (chgL l n d)) : chgL (chgL l n d) n (-d) = l := by
  refine ti_ext (by rw [chgL_len, chgL_len]) fun i hi => ?_
  rw [chgL_len, chgL_len] at hi
  rw [chg_ti h' (by rw [chgL_len]; exact h1) (by rw [chgL_len]; exact hi), chgL_len, inCh_chg h h1 _ _ _ h1, chg_ti h h1 hi]
  simp only
  by_cases hc : inCh l l.length n i = true
  · rw [if_pos hc, if_pos hc, show (ti l i).2.2 + d + -d = (ti l i).2.2 from by omega]
  · rw [if_neg hc, if_neg hc, show (ti l i).2.2 + 0 + 0 = (ti l i).2.2 from by omega]
/-- What is charged is valid. -/
theorem charge_valid {n d : Int} (h : roomOk l n = true) (hd : 0 ≤ d) (hr : d ≤ roomF l n) : limB (chgL l n d) = true := by
  obtain ⟨h1, h2, h3⟩ := roomOk_iff.1 h
  obtain ⟨b1, hall, b3⟩ := limB_all h1
  have hn : n < (l.length : Int) := by omega
  rw [roomF_yes h] at hr
  refine limB_good (by rw [chgL_len]; exact b1) (fun k hk => ?_) (fun k hk => ?_)
  · rw [chgL_len] at hk
    have h0 := limOk_iff.1 (hall k hk)
    rw [limOk_iff, chg_ti hall hn hk]
    simp only
    by_cases hc : inCh l l.length n k = true
    · have := roomUp_ch hall _ _ 10000 _ hn hc
      rw [if_pos hc]; omega
    · rw [if_neg hc]; omega
  · rw [chgL_len] at hk ⊢
    rw [ps_chg hall hn k _ (Nat.le_refl _), chg_ti hall hn hk]
    simp only
    have hb := b3 k hk
    rcases pc_one hall hn k l.length (Nat.le_refl _) with h0 | ⟨h0, j, hj, e1, e2⟩
    · rw [h0]; simp; split <;> omega
    · rw [h0, if_pos (inCh_up hall _ _ j k hn (by omega) e2 e1)]; omega
theorem roomUp_chg (h : AllOk l) {n d : Int} (h1 : n < (l.length : Int)) : ∀ (g : Nat) (m r : Int), m < (l.length : Int) → (∀ i, inCh l g m i = true → inCh l l.length n i = true) → roomUp (chgL l n d) g m (r - d) = roomUp l g m r - d
  | 0, _, _, _, _ => rfl
  | g + 1, m, r, h2, h3 => by
    by_cases hm : m < 0
    · rw [roomUp_neg _ hm, roomUp_neg _ hm]
    · obtain ⟨k, rfl⟩ := Int.eq_ofNat_of_zero_le (by omega : 0 ≤ m)
      have ha := h.above (k := k) (by omega)
      rw [roomUp_step, roomUp_step, chg_ti h h1 (by omega)]
      simp only
      rw [if_pos (h3 k (by rw [inCh_step, decide_eq_true (rfl : k = k)]; rfl)), ← roomUp_chg h h1 g _ _ (by omega) (fun i hi => h3 i (by rw [inCh_step, hi, Bool.or_true]))]
      congr 1
      omega
theorem charge_room {n d : Int} (h : roomOk l n = true) (hd : 0 ≤ d) (hr : d ≤ roomF l n) : roomF (chgL l n d) n = roomF l n - d := by
  obtain ⟨h1, h2, h3⟩ := roomOk_iff.1 h
  have hall := allOk_of h1
  have hn : n < (l.length : Int) := by omega
  have h' : roomOk (chgL l n d) n = true := roomOk_iff.2 ⟨charge_valid h hd hr, h2, by rw [chgL_len]; exact h3⟩
  rw [roomF_yes h, roomF_yes h', chgL_len]
  obtain ⟨k, rfl⟩ := Int.eq_ofNat_of_zero_le h2
  obtain ⟨g, hg⟩ : ∃ g, l.length = g + 1 := ⟨l.length - 1, by omega⟩
  have hk : inCh l l.length (k : Int) k = true := by rw [hg, inCh_step, decide_eq_true (rfl : k = k)]; rfl
  have h0 := limOk_iff.1 (hall k (by omega))
  have ha := hall.above (k := k) (by omega)
  have hstep : ∀ i, inCh l g (ti l k).1 i = true → inCh l l.length (k : Int) i = true := fun i hi => by rw [hg, inCh_step, hi, Bool.or_true]
  have hr' := room_here h
  have e1 : min (10000 : Int) ((ti l k).2.1 - ((ti l k).2.2 + d)) = min 10000 ((ti l k).2.1 - (ti l k).2.2) - d := by omega
  have key := roomUp_chg hall (d := d) hn g (ti l k).1 (min 10000 ((ti l k).2.1 - (ti l k).2.2)) (by omega) hstep
  rw [hg, roomUp_step, roomUp_step, chg_ti hall hn (by omega), if_pos hk]
  simp only
  rw [e1, key]
theorem charge_back {n d : Int} (h : roomOk l n = true) (hd : 0 ≤ d) (hr : d ≤ roomF l n) : freeF (chgL l n d) n d = (l, true) := by
  obtain ⟨h1, h2, h3⟩ := roomOk_iff.1 h
  have hall := allOk_of h1
  have hn : n < (l.length : Int) := by omega
  have hv := charge_valid h hd hr
  have hb := chg_back hall hn (allOk_of hv)
  rw [freeF_yes (by rw [charge_room h hd hr]; omega) (by omega) (by rw [hb]; exact h1), hb]
theorem free_back {n d : Int} (h : roomOk l n = true) (hd : 0 ≤ d) (hv : limB (chgL l n (-d)) = true) : chargeF (chgL l n (-d)) n d = (l, true) := by
  obtain ⟨h1, h2, h3⟩ := roomOk_iff.1 h
  have hall := allOk_of h1
  have hn : n < (l.length : Int) := by omega
  have hall' := allOk_of hv
  have hb := chg_back hall hn hall'
  rw [Int.neg_neg] at hb
  have h' : roomOk (chgL l n (-d)) n = true := roomOk_iff.2 ⟨hv, h2, by rw [chgL_len]; exact h3⟩
  have hge : d ≤ roomF (chgL l n (-d)) n := by
    rw [roomF_yes h']
    obtain ⟨k, rfl⟩ := Int.eq_ofNat_of_zero_le h2
    obtain ⟨g, hg⟩ : ∃ g, l.length = g + 1 := ⟨l.length - 1, by omega⟩
    have hk : inCh l l.length (k : Int) k = true := by rw [hg, inCh_step, decide_eq_true (rfl : k = k)]; rfl
    have h0 := limOk_iff.1 (hall' k (by rw [chgL_len]; omega))
    rw [chg_ti hall hn (by omega), if_pos hk] at h0
    have h00 := limOk_iff.1 (hall k (by omega))
    simp only at h0
    refine roomUp_ge hall' _ _ _ (by rw [chgL_len]; exact hn) (by omega) fun i hi hc => ?_
    rw [chgL_len] at hi hc
    rw [inCh_chg hall hn _ _ _ hn] at hc
    rw [chg_ti hall hn hi, if_pos hc]
    have h01 := limOk_iff.1 (hall i hi)
    simp only
    omega
  rw [chargeF_yes (by omega) (by omega) (by omega), hb]
/-- A beginning of valid limits is valid. -/
theorem ti_take {n i : Nat} (h : i < n) (hn : n ≤ l.length) : ti (l.take n) i = ti l i := by
  unfold ti
  rw [List.getD_eq_getElem?_getD, List.getD_eq_getElem?_getD, List.getElem?_take_of_lt h]
theorem ps_take {n k : Nat} (hn : n ≤ l.length) : ∀ m, m ≤ n → ps (l.take n) m k = ps l m k
  | 0, _ => rfl
  | m + 1, hm => by
    simp only [ps]
    rw [ps_take hn m (by omega), ti_take (by omega) hn]
theorem ps_mono (h : AllOk l) {k : Nat} : ∀ m m', m ≤ m' → m' ≤ l.length → ps l m k ≤ ps l m' k
  | m, 0, h1, _ => by obtain rfl : m = 0 := (by omega); exact Int.le_refl _
  | m, m' + 1, h1, h2 => by
    by_cases e : m = m' + 1
    · subst e; exact Int.le_refl _
    · have := ps_mono h (k := k) m m' (by omega) (by omega)
      have h0 := limOk_iff.1 (h m' (by omega))
      simp only [ps]
      split <;> omega
theorem limB_take {n : Nat} (hn : n ≤ l.length) (h : limB l = true) : limB (l.take n) = true := by
  obtain ⟨b1, hall, b3⟩ := limB_all h
  have hl : (l.take n).length = n := by rw [List.length_take]; omega
  refine limB_good (by omega) (fun k hk => ?_) (fun k hk => ?_)
  · have := hall k (by omega)
    unfold limOk at this ⊢
    rw [ti_take (by omega) hn]; exact this
  · rw [hl, ps_take hn n (Nat.le_refl _), ti_take (by omega) hn]
    have := ps_mono hall (k := k) n l.length hn (Nat.le_refl _)
    have := b3 k (by omega)
    omega
theorem limB_self : limB ((0, 0, 0) :: l) = false := limB_bad (k := 0) (by simp) rfl
end
end Go.Proofs.Ytffppecflamcgaa
