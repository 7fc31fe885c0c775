/- The package's 'CredValid', 'HasGroup', 'mayDo', 'MayDo', 'allows'. -/
import Derived.Test.YtkennmpbmbacpaaGreatDoorMD
import Derived.Test.YtkennmpbmbacpaaGreatDoorMH
import Derived.Test.YtkennmpbmbacpaaGreatDoorBits
set_option linter.unusedSimpArgs false
set_option linter.unusedVariables false
set_option linter.unusedSectionVars false
namespace Go.Proofs.YtkennmpbmbacpaaGreatDoor
open Go.RowKit

/-! ### Plain: rights as bits -/
theorem and7 {n : Int} (h0 : 0 ≤ n) (h1 : n < 65536) : bits .and .i64 n 7 = n.tmod 8 := by
  obtain ⟨k, rfl⟩ : ∃ k : Nat, n = (k : Int) := ⟨n.toNat, by omega⟩
  have := and_nat k 7 (by omega) (by omega)
  have e : k &&& 7 = k % 8 := Nat.and_two_pow_sub_one_eq_mod k 3
  rw [e] at this
  refine this.trans ?_
  rw [Int.tmod_eq_emod_of_nonneg (by omega)]
  omega
theorem and1 {n : Int} (h0 : 0 ≤ n) (h1 : n < 65536) : bits .and .i64 n 1 = n.tmod 2 := by
  obtain ⟨k, rfl⟩ : ∃ k : Nat, n = (k : Int) := ⟨n.toNat, by omega⟩
  have := and_nat k 1 (by omega) (by omega)
  have e : k &&& 1 = k % 2 := Nat.and_two_pow_sub_one_eq_mod k 1
  rw [e] at this
  refine this.trans ?_
  rw [Int.tmod_eq_emod_of_nonneg (by omega)]
  omega
theorem rights_lt (mode cl : Int) (h : 0 ≤ mode) : 0 ≤ rightsF mode cl ∧ rightsF mode cl < 8 := by
  unfold rightsF
  have h1 : 0 ≤ mode / 2 ^ (6 - 3 * cl).toNat := Int.ediv_nonneg h (Int.le_of_lt (Int.pow_pos (by omega)))
  rw [Int.tmod_eq_emod_of_nonneg h1]
  omega
theorem bits8_tab : ∀ w, w < 8 → ∀ r, r < 8 → ((lessN w r == 0) = (r &&& w == w)) ∧ (lessN w r = 0 → w % 2 = 0 ∨ r % 2 = 1) := by decide
theorem or8 : ∀ p, p < 8 → ∀ q, q < 8 → ∀ r, r < 8 → (p ||| q) ||| r < 8 ∧ (((p ||| q) ||| r) % 2 = 1 ↔ (p % 2 = 1 ∨ q % 2 = 1 ∨ r % 2 = 1)) := by decide
theorem less8 {w r : Int} (hw : 0 ≤ w ∧ w < 8) (hr : 0 ≤ r ∧ r < 8) : ((bits .andNot .i64 w r == 0) = (bits .and .i64 r w == w)) ∧ ((bits .andNot .i64 w r == 0) = true → w.tmod 2 = 0 ∨ r.tmod 2 = 1) := by
  obtain ⟨k, rfl⟩ : ∃ k : Nat, w = (k : Int) := ⟨w.toNat, by omega⟩
  obtain ⟨m, rfl⟩ : ∃ m : Nat, r = (m : Int) := ⟨r.toNat, by omega⟩
  obtain ⟨t1, t2⟩ := bits8_tab k (by omega) m (by omega)
  rw [andNot_nat k m (by omega) (by omega), and_nat m k (by omega) (by omega)]
  have c : ∀ a b : Nat, ((a : Int) == (b : Int)) = (a == b) := fun a b => by
    by_cases h : a = b
    · subst h; simp
    · rw [beq_eq_false_iff_ne.2 h, beq_eq_false_iff_ne.2 (by omega)]
  have c0 : (((lessN k m : Nat) : Int) == 0) = (lessN k m == 0) := c _ 0
  refine ⟨?_, fun h => ?_⟩
  · rw [c, ← t1]; exact c _ 0
  · have h0 : lessN k m = 0 := by
      have : (((lessN k m : Nat) : Int) == ((0 : Nat) : Int)) = true := h
      rw [c] at this
      exact beq_iff_eq.1 this
    rw [Int.tmod_eq_emod_of_nonneg (by omega), Int.tmod_eq_emod_of_nonneg (by omega)]
    have := t2 h0
    omega
theorem some_lt (mode : Int) (h : 0 ≤ mode) : 0 ≤ someF mode ∧ someF mode < 8 ∧ ((someF mode).tmod 2 = 1 ↔ ((rightsF mode 0).tmod 2 = 1 ∨ (rightsF mode 1).tmod 2 = 1 ∨ (rightsF mode 2).tmod 2 = 1)) := by
  unfold someF
  have h0 := rights_lt mode 0 h
  have h1 := rights_lt mode 1 h
  have h2 := rights_lt mode 2 h
  generalize rightsF mode 0 = p at *
  generalize rightsF mode 1 = q at *
  generalize rightsF mode 2 = r at *
  obtain ⟨p, rfl⟩ : ∃ k : Nat, p = (k : Int) := ⟨p.toNat, by omega⟩
  obtain ⟨q, rfl⟩ : ∃ k : Nat, q = (k : Int) := ⟨q.toNat, by omega⟩
  obtain ⟨r, rfl⟩ : ∃ k : Nat, r = (k : Int) := ⟨r.toNat, by omega⟩
  have hpq : p ||| q < 8 := Nat.or_lt_two_pow (n := 3) (by omega) (by omega)
  obtain ⟨t1, t2⟩ := or8 p (by omega) q (by omega) r (by omega)
  rw [or_nat p q (by omega) (by omega), or_nat _ r (by omega) (by omega)]
  rw [Int.tmod_eq_emod_of_nonneg (by omega), Int.tmod_eq_emod_of_nonneg (by omega), Int.tmod_eq_emod_of_nonneg (by omega), Int.tmod_eq_emod_of_nonneg (by omega)]
  refine ⟨by omega, by omega, ?_⟩
  omega
/-- What the package's 'mayDo' computes of a class's rights. -/
def mayI (b cl mode want : Int) : Bool := bits .andNot .i64 want (rightsF mode cl) == 0 || (b == 0 && (bits .and .i64 want 1 == 0 || !(bits .and .i64 (someF mode) 1 == 0)))
theorem mayI_eq {a b c d ow gr mo want : Int} (hc : 0 ≤ classF a b c d ow gr) (hm : inB mo 0 1023 = true) (hw : inB want 0 7 = true) : mayI b (classF a b c d ow gr) mo want = mayF a b c d ow gr mo want := by
  have h012 := class_012 hc
  unfold mayF mayI
  rw [decide_eq_true hc, hm, hw]
  obtain ⟨m0, m1⟩ := inB_iffL.1 hm
  obtain ⟨w0, w1⟩ := inB_iffL.1 hw
  generalize classF a b c d ow gr = cl at h012
  have hr := rights_lt mo cl m0
  obtain ⟨t1, t2⟩ := less8 (w := want) (r := rightsF mo cl) ⟨w0, by omega⟩ hr
  obtain ⟨s0, s1, s2⟩ := some_lt mo m0
  rw [and1 w0 (by omega), and1 s0 (by omega)]
  have hs : (rightsF mo cl).tmod 2 = 1 → (someF mo).tmod 2 = 1 := fun h => s2.2 (by
    rcases h012 with e | e | e
    · rw [e] at h; exact .inl h
    · rw [e] at h; exact .inr (.inl h)
    · rw [e] at h; exact .inr (.inr h))
  simp only [Bool.true_and]
  by_cases hb : b = 0
  · subst hb
    rw [if_pos rfl]
    have hs2 : (!((someF mo).tmod 2 == 0)) = ((someF mo).tmod 2 == 1) := by
      have : (someF mo).tmod 2 = 0 ∨ (someF mo).tmod 2 = 1 := by
        rw [Int.tmod_eq_emod_of_nonneg s0]; omega
      rcases this with h | h <;> rw [h] <;> rfl
    rw [hs2]
    cases hl : (bits .andNot .i64 want (rightsF mo cl) == 0)
    · simp
    · rcases t2 hl with h | h
      · rw [h]; rfl
      · rw [hs h]; simp
  · rw [if_neg hb, t1]
    have : (b == 0) = false := beq_eq_false_iff_ne.2 hb
    rw [this]; simp

/-! ### Walks -/
set_option maxHeartbeats 4000000 in
theorem credI_any (a b c d : Int) (w : World) : Calls Tryz.prog 53 #[.agg #[.int .i64 a, .int .i64 b, .int .i64 c, .int .i64 d]] w fun e w' => e = .returned (.bool (credB a b c d)) ∧ Below w.heap.size w w' := by
  unfold credB
  rcases and4 (inB a 0 99) (inB b 0 99) (inB c 0 99) (inB d 0 255) with g1 | ⟨g1, g2⟩ | ⟨g1, g2, g3⟩ | ⟨g1, g2, g3, g4⟩ | ⟨g1, g2, g3, g4⟩
  all_goals
    go_enter Tryz.func53, Tryz.ntmps53
    go_wp2_with (first | (go_at_call 56; refine (within_any _ _ _ _).mono ?_; rintro e w' ⟨rfl, rfl⟩) | (go_at_call 96; refine (isUserI_any _ _).mono ?_; rintro e w' ⟨rfl, rfl⟩))
    go_ret
    exact ⟨by simp [*], (by (repeat (first | exact Below.refl _ _ | exact Hbl.out | refine Below.ext ?_ (by first | omega | (simp; omega) | simp) | refine Below.setCell ?_ (by first | omega | (simp; omega) | simp) _ | refine Below.alloc ?_ (by first | omega | (simp; omega) | simp) _ | refine Below.drew ?_ | refine below_drewN ?_ _ | refine Below.step (by assumption) (by first | omega | (simp; omega) | simp) ?_)))⟩
theorem group_bit {groups group : Int} (h1 : inB groups 0 255 = true) : (bits .and .i64 (groups / 2 ^ group.toNat) 1 == 1) = ((groups / 2 ^ group.toNat).tmod 2 == 1) := by
  obtain ⟨a0, a1⟩ := inB_iffL.1 h1
  have hp : (0 : Int) < 2 ^ group.toNat := Int.pow_pos (by omega)
  have h2 : 0 ≤ groups / 2 ^ group.toNat := Int.ediv_nonneg a0 (by omega)
  have h3 : groups / 2 ^ group.toNat ≤ groups := Int.ediv_le_self _ a0
  rw [and1 h2 (by omega)]
set_option maxHeartbeats 4000000 in
theorem hasGroupI_any (groups group : Int) (w : World) : Calls Tryz.prog 137 #[.int .i64 groups, .int .i64 group] w fun e w' => e = .returned (.bool (groupB groups group)) ∧ w = w' := by
  unfold groupB
  rcases and3 (inB groups 0 255) (inB group 0 7) true with g1 | ⟨g1, g2⟩ | ⟨g1, g2, g3⟩ | ⟨g1, g2, g3⟩
  · go_enter Tryz.func137, Tryz.ntmps137
    go_wp2_with (first | (go_at_call 56; refine (within_any _ _ _ _).mono ?_; rintro e w' ⟨rfl, rfl⟩) | (go_at_call 98; refine (isGroupI_any _ _).mono ?_; rintro e w' ⟨rfl, rfl⟩))
    go_ret
    exact ⟨by simp [*], rfl⟩
  · go_enter Tryz.func137, Tryz.ntmps137
    go_wp2_with (first | (go_at_call 56; refine (within_any _ _ _ _).mono ?_; rintro e w' ⟨rfl, rfl⟩) | (go_at_call 98; refine (isGroupI_any _ _).mono ?_; rintro e w' ⟨rfl, rfl⟩))
    go_ret
    exact ⟨by simp [*], rfl⟩
  · cases g3
  · obtain ⟨h0, h1⟩ := inB_iffL.1 g2
    have hg := group_bit (group := group) g1
    go_enter Tryz.func137, Tryz.ntmps137
    go_wp2_with (first | (go_at_call 56; refine (within_any _ _ _ _).mono ?_; rintro e w' ⟨rfl, rfl⟩) | (go_at_call 98; refine (isGroupI_any _ _).mono ?_; rintro e w' ⟨rfl, rfl⟩))
    go_ret
    exact ⟨by simp [*], rfl⟩
def clsF (b d owner group : Int) : Int := if b = owner then 0 else if groupB d group = true then 1 else 2
theorem clsF_eq {a b c d owner group : Int} (h1 : credB a b c d = true) (h2 : inB owner 0 99 = true) (h3 : inB group 0 7 = true) : classF a b c d owner group = clsF b d owner group := by
  unfold classF clsF
  rw [if_pos ⟨h1, h2, h3⟩]
set_option maxHeartbeats 4000000 in
theorem clsI_any (a b c d owner group : Int) (w : World) : Calls Tryz.prog 119 #[.agg #[.int .i64 a, .int .i64 b, .int .i64 c, .int .i64 d], .int .i64 owner, .int .i64 group] w fun e w' => e = .returned (.int .i64 (clsF b d owner group)) ∧ Below w.heap.size w w' := by
  unfold clsF
  by_cases ho : b = owner
  · go_enter Tryz.func119, Tryz.ntmps119
    go_wp2
    go_ret
    exact ⟨by simp [*], (by (repeat (first | exact Below.refl _ _ | exact Hbl.out | refine Below.ext ?_ (by first | omega | (simp; omega) | simp) | refine Below.setCell ?_ (by first | omega | (simp; omega) | simp) _ | refine Below.alloc ?_ (by first | omega | (simp; omega) | simp) _ | refine Below.drew ?_ | refine below_drewN ?_ _ | refine Below.step (by assumption) (by first | omega | (simp; omega) | simp) ?_)))⟩
  · cases hg : groupB d group
    all_goals
      go_enter Tryz.func119, Tryz.ntmps119
      go_wp2_with (go_at_call 137; refine (hasGroupI_any _ _ _).mono ?_; rintro e w' ⟨rfl, rfl⟩)
      all_goals
        go_ret
        exact ⟨by simp [*], (by (repeat (first | exact Below.refl _ _ | exact Hbl.out | refine Below.ext ?_ (by first | omega | (simp; omega) | simp) | refine Below.setCell ?_ (by first | omega | (simp; omega) | simp) _ | refine Below.alloc ?_ (by first | omega | (simp; omega) | simp) _ | refine Below.drew ?_ | refine below_drewN ?_ _ | refine Below.step (by assumption) (by first | omega | (simp; omega) | simp) ?_)))⟩
set_option maxHeartbeats 4000000 in
theorem rightsI_in (mode cl : Int) (w : World) (h1 : inB mode 0 1023 = true) (h2 : cl = 0 ∨ cl = 1 ∨ cl = 2) : Calls Tryz.prog 118 #[.int .i64 mode, .int .i64 cl] w fun e w' => e = .returned (.int .i64 (rightsF mode cl)) ∧ w = w' := by
  obtain ⟨m0, m1⟩ := inB_iffL.1 h1
  have h7 : rightsF mode cl = bits .and .i64 (mode / 2 ^ (6 - 3 * cl).toNat) 7 := by
    have hp : (0 : Int) < 2 ^ (6 - 3 * cl).toNat := Int.pow_pos (by omega)
    have hx : 0 ≤ mode / 2 ^ (6 - 3 * cl).toNat := Int.ediv_nonneg m0 (by omega)
    have hy : mode / 2 ^ (6 - 3 * cl).toNat ≤ mode := Int.ediv_le_self _ m0
    unfold rightsF
    rw [and7 hx (by omega)]
  rw [h7]
  clear h7
  rcases h2 with rfl | rfl | rfl
  all_goals
    go_enter Tryz.func118, Tryz.ntmps118
    go_wp2
    go_ret
    exact ⟨by simp [Act.tmps], rfl⟩
set_option maxRecDepth 100000 in
set_option maxHeartbeats 4000000 in
theorem mayI_any (a b c d owner group mode want : Int) (w : World) (g1 : credB a b c d = true) (g2 : inB owner 0 99 = true) (g3 : inB group 0 7 = true) (g4 : inB mode 0 1023 = true) (g5 : inB want 0 7 = true) :
    Calls Tryz.prog 97 #[.agg #[.int .i64 a, .int .i64 b, .int .i64 c, .int .i64 d], .int .i64 owner, .int .i64 group, .int .i64 mode, .int .i64 want] w fun e w' => e = .returned (.bool (mayF a b c d owner group mode want)) ∧ Below w.heap.size w w' := by
  have e1 := clsF_eq g1 g2 g3
  have hcl : clsF b d owner group = 0 ∨ clsF b d owner group = 1 ∨ clsF b d owner group = 2 := by
    unfold clsF
    split
    · exact .inl rfl
    · split
      · exact .inr (.inl rfl)
      · exact .inr (.inr rfl)
  have hf : mayF a b c d owner group mode want = mayI b (clsF b d owner group) mode want := by
    rw [← e1]
    exact (mayI_eq (by rw [e1]; omega) g4 g5).symm
  rw [hf]
  have hC := fun w => clsI_any a b c d owner group w
  generalize clsF b d owner group = cl at hC hcl
  have HC := Lib.hid hC
  have KC := Lib.hid (fun w => rightsI_in mode cl w g4 hcl)
  clear hC hf e1 hcl g1 g2 g3 g5
  unfold mayI someF
  cases hl : (bits .andNot .i64 want (rightsF mode cl) == 0)
  · by_cases hb0 : b = 0
    · subst hb0
      cases hw : (bits .and .i64 want 1 == 0)
      all_goals
        go_enter Tryz.func97, Tryz.ntmps97
        go_wp2_with (first | (go_at_call 119; refine (HC.out _).mono ?_; rintro e w' ⟨rfl, hb⟩; obtain ⟨d1, os1, rfl⟩ := ext_of_below hb; clear hb) | (go_at_call 118; refine (rightsI_in mode _ _ g4 ?_).mono ?_; (focus (first | exact .inl rfl | exact .inr (.inl rfl) | exact .inr (.inr rfl))); rintro e w' ⟨rfl, rfl⟩) | (go_at_call 118; refine (KC.out _).mono ?_; rintro e w' ⟨rfl, rfl⟩))
        all_goals
          go_ret
          exact ⟨by simp [Act.tmps, hl, hw, bne], (by (repeat (first | exact Below.refl _ _ | exact Hbl.out | refine Below.ext ?_ (by first | omega | (simp; omega) | simp) | refine Below.setCell ?_ (by first | omega | (simp; omega) | simp) _ | refine Below.alloc ?_ (by first | omega | (simp; omega) | simp) _ | refine Below.drew ?_ | refine below_drewN ?_ _ | refine Below.step (by assumption) (by first | omega | (simp; omega) | simp) ?_)))⟩
    · have hb1 : (b == 0) = false := beq_eq_false_iff_ne.2 hb0
      go_enter Tryz.func97, Tryz.ntmps97
      go_wp2_with (first | (go_at_call 119; refine (HC.out _).mono ?_; rintro e w' ⟨rfl, hb⟩; obtain ⟨d1, os1, rfl⟩ := ext_of_below hb; clear hb) | (go_at_call 118; refine (rightsI_in mode _ _ g4 ?_).mono ?_; (focus (first | exact .inl rfl | exact .inr (.inl rfl) | exact .inr (.inr rfl))); rintro e w' ⟨rfl, rfl⟩) | (go_at_call 118; refine (KC.out _).mono ?_; rintro e w' ⟨rfl, rfl⟩))
      all_goals
        go_ret
        exact ⟨by simp [Act.tmps, hl, hb1], (by (repeat (first | exact Below.refl _ _ | exact Hbl.out | refine Below.ext ?_ (by first | omega | (simp; omega) | simp) | refine Below.setCell ?_ (by first | omega | (simp; omega) | simp) _ | refine Below.alloc ?_ (by first | omega | (simp; omega) | simp) _ | refine Below.drew ?_ | refine below_drewN ?_ _ | refine Below.step (by assumption) (by first | omega | (simp; omega) | simp) ?_)))⟩
  · go_enter Tryz.func97, Tryz.ntmps97
    go_wp2_with (first | (go_at_call 119; refine (HC.out _).mono ?_; rintro e w' ⟨rfl, hb⟩; obtain ⟨d1, os1, rfl⟩ := ext_of_below hb; clear hb) | (go_at_call 118; refine (rightsI_in mode _ _ g4 ?_).mono ?_; (focus (first | exact .inl rfl | exact .inr (.inl rfl) | exact .inr (.inr rfl))); rintro e w' ⟨rfl, rfl⟩) | (go_at_call 118; refine (KC.out _).mono ?_; rintro e w' ⟨rfl, rfl⟩))
    all_goals
      go_ret
      exact ⟨by simp [Act.tmps, hl], (by (repeat (first | exact Below.refl _ _ | exact Hbl.out | refine Below.ext ?_ (by first | omega | (simp; omega) | simp) | refine Below.setCell ?_ (by first | omega | (simp; omega) | simp) _ | refine Below.alloc ?_ (by first | omega | (simp; omega) | simp) _ | refine Below.drew ?_ | refine below_drewN ?_ _ | refine Below.step (by assumption) (by first | omega | (simp; omega) | simp) ?_)))⟩
set_option maxHeartbeats 1000000 in
theorem allowsI_any (a b c d want : Int) (x : Nd) (nA : Option Addr) (nL nC : Nat) (kA : Option Addr) (kL kC : Nat) (w : World) (g1 : credB a b c d = true) (g2 : inB x.ow 0 99 = true) (g3 : inB x.gr 0 7 = true) (g4 : inB x.mo 0 1023 = true) (g5 : inB want 0 7 = true) : Calls Tryz.prog 55 #[.agg #[.bool x.fo, .int .i64 x.ow, .int .i64 x.gr, .int .i64 x.mo, .string x.tx, .slice nA nL nC, .slice kA kL kC], .agg #[.int .i64 a, .int .i64 b, .int .i64 c, .int .i64 d], .int .i64 want] w fun e w' => e = .returned (.bool (mayF a b c d x.ow x.gr x.mo want)) ∧ Below w.heap.size w w' := by
  go_enter Tryz.func55, Tryz.ntmps55
  go_wp2_with (go_at_call 97; refine (mayI_any _ _ _ _ _ _ _ _ _ g1 g2 g3 g4 g5).mono ?_; rintro e w' ⟨rfl, hb⟩; obtain ⟨d1, os1, rfl⟩ := ext_of_below hb; clear hb)
  go_ret
  exact ⟨rfl, (by (repeat (first | exact Below.refl _ _ | exact Hbl.out | refine Below.ext ?_ (by first | omega | (simp; omega) | simp) | refine Below.setCell ?_ (by first | omega | (simp; omega) | simp) _ | refine Below.alloc ?_ (by first | omega | (simp; omega) | simp) _ | refine Below.drew ?_ | refine below_drewN ?_ _ | refine Below.step (by assumption) (by first | omega | (simp; omega) | simp) ?_)))⟩
end Go.Proofs.YtkennmpbmbacpaaGreatDoor
