/- Texts in one: The package's 'LinksOf'. The package's 'isUser', 'isGroup', 'isMode', 'nodeValid': walks; the plain side of its TreeValid. The package's 'TreeValid'. The laws' 'sameInts', 'sameTexts', 'sameTree'. -/
import Derived.Test.YtkennmpbmbacpaaGreatDoorMD
import Derived.Test.YtkennmpbmbacpaaGreatDoorME
import Derived.Deep.QuietTactic
set_option linter.unusedSimpArgs false
set_option linter.unusedVariables false
set_option linter.unusedSectionVars false
namespace Go.Proofs.YtkennmpbmbacpaaGreatDoor
open Go.RowKit

/-- Node k in an elder world: its slices there, its cells now. -/
theorem TreeR.at2 {w w' : World} {x : Nd} {t : List Nd} {A : Option Addr} {n cap k : Nat} (h : TreeR w (.slice A n cap) t) (hB : Below w.heap.size w w') (hk : t[k]? = some x) : ∃ b off nA nC kA kC, A = some ⟨b, off, none⟩ ∧ b < w.heap.size ∧ NdS w nA nC kA kC x ∧
    w'.cell? ⟨b, off + k * 7, none⟩ = some (.bool x.fo) ∧ w'.cell? ⟨b, off + k * 7 + 1, none⟩ = some (.int .i64 x.ow) ∧ w'.cell? ⟨b, off + k * 7 + 2, none⟩ = some (.int .i64 x.gr) ∧ w'.cell? ⟨b, off + k * 7 + 3, none⟩ = some (.int .i64 x.mo) ∧
    w'.cell? ⟨b, off + k * 7 + 4, none⟩ = some (.string x.tx) ∧ w'.cell? ⟨b, off + k * 7 + 5, none⟩ = some (.slice nA x.ns.length nC) ∧ w'.cell? ⟨b, off + k * 7 + 6, none⟩ = some (.slice kA x.ks.length kC) := by
  obtain ⟨b, off, nA, nC, kA, kC, e, hb, hS, q0, q1, q2, q3, q4, q5, q6⟩ := h.at_ hk
  have hc : ∀ o, w'.cell? ⟨b, o, none⟩ = w.cell? ⟨b, o, none⟩ := fun o => hB.cell (p := ⟨b, o, none⟩) hb
  exact ⟨b, off, nA, nC, kA, kC, e, hb, hS, (hc _).trans q0, (hc _).trans q1, (hc _).trans q2, (hc _).trans q3, (hc _).trans q4, (hc _).trans q5, (hc _).trans q6⟩
set_option maxRecDepth 100000 in
set_option maxHeartbeats 4000000 in
theorem linksI_of (v : Value) (t : List Nd) (w : World) (h : TreeR w v t) (ht : t.length ≤ 1000) (hkz : (kidsOf t).length ≤ 1000000) :
    Calls Tryz.prog 17 #[v] w fun e w' => ∃ v', e = .returned v' ∧ OwnG EI 3 w.heap.size w' v' (linksF t) ∧ Below w.heap.size w w' := by
  obtain ⟨i0, hi, hz0, hz1, hz2⟩ := info_partsI infoInt
  have H := Lib.hid h
  obtain ⟨A, cap, rfl⟩ := h.shape
  have hcap := h.caps
  clear h
  by_cases h16 : 16 < t.length
  · have h16' : (16 : Int) < (t.length : Int) := by omega
    have hr := Lib.hid (links_long h16)
    go_enter Tryz.func17, Tryz.ntmps17
    go_wp2
    go_ret
    exact ⟨_, rfl, by rw [hr.out]; exact ownG_none _ _, (by (repeat (first | exact Below.refl _ _ | exact Hbl.out | refine Below.ext ?_ (by first | omega | (simp; omega) | simp) | refine Below.setCell ?_ (by first | omega | (simp; omega) | simp) _ | refine Below.alloc ?_ (by first | omega | (simp; omega) | simp) _ | refine Below.drew ?_ | refine below_drewN ?_ _ | refine Below.step (by assumption) (by first | omega | (simp; omega) | simp) ?_)))⟩
  · have h16' : ¬ (16 : Int) < (t.length : Int) := by omega
    go_enter Tryz.func17, Tryz.ntmps17
    go_wp2_with (refine wpList_make_full _ rfl _ _ 35 rfl w.heap.size 3 i0 (.int .i64 0) 1 Tryz.underlying35 hi hz0 hz1 _ _ _ _ t.length rfl rfl rfl rfl (by rw [hz2]; omega) (by unfold maxLen; omega) (Nat.le_refl _) ?_)
    intro w1 hown hg1
    have hbl : Below w.heap.size w w1 := (Below.refl _ _).grown hg1 (Nat.le_refl _) (by intro k hk; cases hk)
    have hO : OwnG EI 3 w.heap.size w1 (.slice (some ⟨w.heap.size, 0, none⟩) t.length t.length) (cntL t.length (pre t 0 0)) := by
      unfold OwnG
      rw [pre_zero, cntL_len, ← made_ints]
      exact hown
    have HO := Lib.hid hO
    have Hbl := Lib.hid hbl
    have hz1' := hbl.size
    clear hown hg1 hO hbl hi hz0 hz1 hz2
    go_wp2
    go_loopw [16] (fun i wr => ∃ k : Nat, k ≤ t.length ∧ i = .int .i64 k ∧ OwnG EI 3 w.heap.size wr (.slice (some ⟨w.heap.size, 0, none⟩) t.length t.length) (cntL t.length (pre t k 0)) ∧ Below w.heap.size w wr ∧ ∀ z ∈ pre t k 0, inB z 0 ((t.length : Int) - 1) = true) (fun i _ => t.length - (intOf i).toNat)
    case atStart => exact ⟨0, Nat.zero_le _, rfl, HO.out, Hbl.out, fun z hz => by rw [pre_zero] at hz; cases hz⟩
    case round =>
      obtain ⟨k, hk, rfl, hO, hB, hall⟩ := hrel
      have HO2 := Lib.hid hO
      have HB := Lib.hid hB
      have Hall := Lib.hid hall
      have hzr := hB.size
      by_cases hlt : k < t.length
      · have zn : IntKind.i64.wrap ((t.length : Int) - 1) = (t.length : Int) - 1 := IntWalk.i64_in _ (by omega)
        have zk : IntKind.i64.wrap ((k : Int) + 1) = (k : Int) + 1 := IntWalk.i64_in _ (by omega)
        obtain ⟨b, off, nA, nC, kA, kC, rfl, hb, hS, q0, q1, q2, q3, q4, q5, q6⟩ := H.out.at2 hB (kth_at hlt)
        have hkc := hS.ks.caps
        have HS := Lib.hid hS
        have hlt' : (k : Int) < (t.length : Int) := by omega
        clear hO hB hall HO Hbl hS
        go_wp2
        go_loopw [23] (fun i wq => ∃ j : Nat, j ≤ (kth t k).ks.length ∧ i = .int .i64 j ∧ OwnG EI 3 w.heap.size wq (.slice (some ⟨w.heap.size, 0, none⟩) t.length t.length) (cntL t.length (pre t k j)) ∧ Below w.heap.size w wq ∧ ∀ z ∈ pre t k j, inB z 0 ((t.length : Int) - 1) = true) (fun i _ => (kth t k).ks.length - (intOf i).toNat)
        case atStart => exact ⟨0, Nat.zero_le _, rfl, ownG_alloc HO2.out _, Below.alloc HB.out hzr _, Hall.out⟩
        case round =>
          obtain ⟨j, hj, rfl, hO, hB, hall⟩ := hrel
          have HO3 := Lib.hid hO
          have HB3 := Lib.hid hB
          have Hall3 := Lib.hid hall
          have hwz := hB.size
          have Hsl := Lib.hid (HS.out.ks.below hB)
          clear hO hB hall HO2 HB Hall q0 q1 q2 q3 q4 q5 q6 HS
          by_cases hjl : j < (kth t k).ks.length
          · have zj : IntKind.i64.wrap ((j : Int) + 1) = (j : Int) + 1 := IntWalk.i64_in _ (by omega)
            obtain ⟨b2, o2, rfl, hb2, q2⟩ := Hsl.out.at_ (nthK_at hjl)
            have c2 : wr.cell? ⟨b2, o2 + j, none⟩ = some (.int .i64 (nthK (kth t k) j)) := by have := q2 0 _ rfl; simpa [EI] using this
            clear q2
            cases hin : inB (nthK (kth t k) j) 0 ((t.length : Int) - 1)
            · have hr := Lib.hid (links_bad hlt hjl hin)
              go_wp2_with (go_at_call 56; refine (within_any _ _ _ _).mono ?_; rintro e w' ⟨rfl, rfl⟩)
              go_ret
              exact ⟨_, rfl, by rw [hr.out]; exact ownG_none _ _, HB3.out⟩
            · obtain ⟨z, hz⟩ : ∃ z, z = nthK (kth t k) j := ⟨_, rfl⟩
              have hpk := pre_kid hjl
              rw [← hz] at c2 hin hpk
              have hz2 : 0 ≤ z ∧ z ≤ (t.length : Int) - 1 := inB_iffL.1 hin
              obtain ⟨z0, z1⟩ := hz2
              have z2 : z < (t.length : Int) := by omega
              have hzn : z.toNat < t.length := by omega
              have hget := cntL_get (n := t.length) (P := pre t k j) hzn
              have hzz : ((z.toNat : Nat) : Int) = z := by omega
              rw [hzz] at hget
              obtain ⟨gg, og, hgg, hgl, hcell⟩ := (ownG_sl HO3.out).at_ hget
              cases hgg
              have c3 : wr.cell? ⟨w.heap.size, z.toNat, none⟩ = some (.int .i64 ((pre t k j).count z : Nat)) := by have := hcell 0 _ rfl; simpa [EI] using this
              have f3 : wr.frozen? ⟨w.heap.size, z.toNat, none⟩ = false := by
                have hh := HO3.out
                unfold OwnG at hh
                rw [cntL_len] at hh
                exact hh.frozenAt _
              have hcle := pre_count_le (j := j) z (Nat.le_of_lt hlt)
              have zc : IntKind.i64.wrap (((pre t k j).count z : Nat) + 1) = ((pre t k j).count z : Nat) + 1 := IntWalk.i64_in _ (by omega)
              have hst := (ownG_store (E := EI) (j := 0) (y := (((pre t k j).count z : Nat) : Int) + 1) (u := .int .i64 ((((pre t k j).count z : Nat) : Int) + 1)) HO3.out hget (show 0 < EI.z from by decide) rfl)
              obtain ⟨g2, eg2, hl1, hl2, hl3, hst⟩ := hst
              clear hl1 hl2 hl3
              cases eg2
              rw [cntL_snoc z0 z2, ← hpk] at hst
              have hst' : OwnG EI 3 w.heap.size (wr.setCell ⟨w.heap.size, z.toNat, none⟩ (.int .i64 (((pre t k j).count z : Nat) + 1))) (.slice (some ⟨w.heap.size, 0, none⟩) t.length t.length) (cntL t.length (pre t k (j + 1))) := by
                have h1 := hst
                rw [show z.toNat * EI.z + 0 = z.toNat from by show z.toNat * 1 + 0 = z.toNat; omega] at h1
                exact h1
              have Hst := Lib.hid hst'
              have Hpk := Lib.hid hpk
              have Hin := Lib.hid hin
              have hinF := hin
              generalize (pre t k j).count z = cz at c3 zc Hst
              clear hcell hst hst' hget hpk hzz hz hcle z1 hkc hcap h16 ht hkz
              go_wp2_with (go_at_call 56; refine (within_any _ _ _ _).mono ?_; rintro e w' ⟨rfl, rfl⟩)
              go_roundw
              case rel => exact ⟨j + 1, hjl, by go_num, Hst.out, Below.setCell HB3.out (Nat.le_refl _) _, fun y hy => by
                rw [Hpk.out, List.mem_append, List.mem_singleton] at hy
                rcases hy with hy | rfl
                · exact Hall3.out y hy
                · exact Hin.out⟩
              case measure => simp [intOf]; omega
          · obtain rfl : j = (kth t k).ks.length := by omega
            have hnx := pre_next hlt
            rw [hnx] at HO3 Hall3
            clear hnx
            go_wp2
            go_roundw
            case rel => exact ⟨k + 1, hlt, by go_num, HO3.out, HB3.out, Hall3.out⟩
            case measure => simp [intOf]; omega
      · obtain rfl : k = t.length := by omega
        have hend := pre_end t
        rw [hend] at HO2 Hall
        have hr := Lib.hid (links_good (by omega) Hall.out)
        clear hend
        go_wp2
        go_ret
        exact ⟨_, rfl, by rw [hr.out]; exact HO2.out, HB.out⟩
end Go.Proofs.YtkennmpbmbacpaaGreatDoor

namespace Go.Proofs.YtkennmpbmbacpaaGreatDoor
open Go.RowKit

theorem isUserI_any (n : Int) (w : World) : Calls Tryz.prog 96 #[.int .i64 n] w fun e w' => e = .returned (.bool (inB n 0 99)) ∧ w = w' := by
  go_enter Tryz.func96, Tryz.ntmps96
  go_wp2_with (go_at_call 56; refine (within_any _ _ _ _).mono ?_; rintro e w' ⟨rfl, rfl⟩)
  go_ret
  exact ⟨rfl, rfl⟩
theorem isGroupI_any (n : Int) (w : World) : Calls Tryz.prog 98 #[.int .i64 n] w fun e w' => e = .returned (.bool (inB n 0 7)) ∧ w = w' := by
  go_enter Tryz.func98, Tryz.ntmps98
  go_wp2_with (go_at_call 56; refine (within_any _ _ _ _).mono ?_; rintro e w' ⟨rfl, rfl⟩)
  go_ret
  exact ⟨rfl, rfl⟩
theorem isModeI_any (n : Int) (w : World) : Calls Tryz.prog 66 #[.int .i64 n] w fun e w' => e = .returned (.bool (inB n 0 1023)) ∧ w = w' := by
  go_enter Tryz.func66, Tryz.ntmps66
  go_wp2_with (go_at_call 56; refine (within_any _ _ _ _).mono ?_; rintro e w' ⟨rfl, rfl⟩)
  go_ret
  exact ⟨rfl, rfl⟩
/-- What the package asks of a node alone. -/
def nmOk (x : Nd) (k : Nat) : Bool := nameB (nthN x k) && (decide (k = 0) || ltL (nthN x (k - 1)) (nthN x k))
def nodeI (x : Nd) : Bool := inB x.ow 0 99 && (inB x.gr 0 7 && (inB x.mo 0 1023 && (if x.fo = true then (List.range x.ns.length).all (nmOk x) && (decide (x.tx.size = 0) && decide (x.ns.length = x.ks.length)) else decide (x.tx.size ≤ 40) && (decide (x.ns.length = 0) && decide (x.ks.length = 0)))))
set_option maxRecDepth 100000 in
set_option maxHeartbeats 4000000 in
theorem nodeI_of (nA : Option Addr) (nC : Nat) (kA : Option Addr) (kC : Nat) (x : Nd) (w : World) (h : NdS w nA nC kA kC x) :
    Calls Tryz.prog 57 #[.agg #[.bool x.fo, .int .i64 x.ow, .int .i64 x.gr, .int .i64 x.mo, .string x.tx, .slice nA x.ns.length nC, .slice kA x.ks.length kC]] w fun e w' => e = .returned (.bool (nodeI x)) ∧ Below w.heap.size w w' := by
  have Hns := Lib.hid h.ns
  have Hnz := Lib.hid h.nz
  have hc1 := h.ns.caps
  have hc2 := h.ks.caps
  have hsz := h.sz
  unfold maxLen at hsz
  clear h
  have hd : nodeI x = (inB x.ow 0 99 && (inB x.gr 0 7 && (inB x.mo 0 1023 && (if x.fo = true then (List.range x.ns.length).all (nmOk x) && (decide (x.tx.size = 0) && decide (x.ns.length = x.ks.length)) else decide (x.tx.size ≤ 40) && (decide (x.ns.length = 0) && decide (x.ks.length = 0)))))) := rfl
  have Hd := Lib.hid hd
  clear hd
  rcases and3 (inB x.ow 0 99) (inB x.gr 0 7) (inB x.mo 0 1023) with g1 | ⟨g1, g2⟩ | ⟨g1, g2, g3⟩ | ⟨g1, g2, g3⟩
  · have hh := Lib.hid (Hd.out.trans (show _ = false by rw [g1]; rfl))
    go_enter Tryz.func57, Tryz.ntmps57
    go_wp2_with (first | (go_at_call 96; refine (isUserI_any _ _).mono ?_; rintro e w' ⟨rfl, rfl⟩) | (go_at_call 98; refine (isGroupI_any _ _).mono ?_; rintro e w' ⟨rfl, rfl⟩) | (go_at_call 66; refine (isModeI_any _ _).mono ?_; rintro e w' ⟨rfl, rfl⟩))
    go_ret
    exact ⟨by rw [hh.out]; rfl, (by (repeat (first | exact Below.refl _ _ | exact Hbl.out | refine Below.ext ?_ (by first | omega | (simp; omega) | simp) | refine Below.setCell ?_ (by first | omega | (simp; omega) | simp) _ | refine Below.alloc ?_ (by first | omega | (simp; omega) | simp) _ | refine Below.drew ?_ | refine below_drewN ?_ _ | refine Below.step (by assumption) (by first | omega | (simp; omega) | simp) ?_)))⟩
  · have hh := Lib.hid (Hd.out.trans (show _ = false by rw [g1, g2]; rfl))
    go_enter Tryz.func57, Tryz.ntmps57
    go_wp2_with (first | (go_at_call 96; refine (isUserI_any _ _).mono ?_; rintro e w' ⟨rfl, rfl⟩) | (go_at_call 98; refine (isGroupI_any _ _).mono ?_; rintro e w' ⟨rfl, rfl⟩) | (go_at_call 66; refine (isModeI_any _ _).mono ?_; rintro e w' ⟨rfl, rfl⟩))
    go_ret
    exact ⟨by rw [hh.out]; rfl, (by (repeat (first | exact Below.refl _ _ | exact Hbl.out | refine Below.ext ?_ (by first | omega | (simp; omega) | simp) | refine Below.setCell ?_ (by first | omega | (simp; omega) | simp) _ | refine Below.alloc ?_ (by first | omega | (simp; omega) | simp) _ | refine Below.drew ?_ | refine below_drewN ?_ _ | refine Below.step (by assumption) (by first | omega | (simp; omega) | simp) ?_)))⟩
  · have hh := Lib.hid (Hd.out.trans (show _ = false by rw [g1, g2, g3]; rfl))
    go_enter Tryz.func57, Tryz.ntmps57
    go_wp2_with (first | (go_at_call 96; refine (isUserI_any _ _).mono ?_; rintro e w' ⟨rfl, rfl⟩) | (go_at_call 98; refine (isGroupI_any _ _).mono ?_; rintro e w' ⟨rfl, rfl⟩) | (go_at_call 66; refine (isModeI_any _ _).mono ?_; rintro e w' ⟨rfl, rfl⟩))
    go_ret
    exact ⟨by rw [hh.out]; rfl, (by (repeat (first | exact Below.refl _ _ | exact Hbl.out | refine Below.ext ?_ (by first | omega | (simp; omega) | simp) | refine Below.setCell ?_ (by first | omega | (simp; omega) | simp) _ | refine Below.alloc ?_ (by first | omega | (simp; omega) | simp) _ | refine Below.drew ?_ | refine below_drewN ?_ _ | refine Below.step (by assumption) (by first | omega | (simp; omega) | simp) ?_)))⟩
  · cases hfo : x.fo
    · have hh := Lib.hid (Hd.out.trans (show _ = (decide (x.tx.size ≤ 40) && (decide (x.ns.length = 0) && decide (x.ks.length = 0))) by rw [g1, g2, g3, hfo]; rfl))
      clear Hd
      rcases and3 (decide (x.tx.size ≤ 40)) (decide (x.ns.length = 0)) (decide (x.ks.length = 0)) with r1 | ⟨r1, r2⟩ | ⟨r1, r2, r3⟩ | ⟨r1, r2, r3⟩
      · rw [r1] at hh
        have r1' : ¬ (x.tx.size : Int) ≤ 40 := by simp at r1; omega
        clear r1
        go_enter Tryz.func57, Tryz.ntmps57
        go_wp2_with (first | (go_at_call 96; refine (isUserI_any _ _).mono ?_; rintro e w' ⟨rfl, rfl⟩) | (go_at_call 98; refine (isGroupI_any _ _).mono ?_; rintro e w' ⟨rfl, rfl⟩) | (go_at_call 66; refine (isModeI_any _ _).mono ?_; rintro e w' ⟨rfl, rfl⟩))
        go_ret
        exact ⟨by rw [hh.out]; rfl, (by (repeat (first | exact Below.refl _ _ | exact Hbl.out | refine Below.ext ?_ (by first | omega | (simp; omega) | simp) | refine Below.setCell ?_ (by first | omega | (simp; omega) | simp) _ | refine Below.alloc ?_ (by first | omega | (simp; omega) | simp) _ | refine Below.drew ?_ | refine below_drewN ?_ _ | refine Below.step (by assumption) (by first | omega | (simp; omega) | simp) ?_)))⟩
      · rw [r1, r2] at hh
        have r1' : (x.tx.size : Int) ≤ 40 := by simp at r1; omega
        have r2' : ¬ (x.ns.length : Int) = 0 := by simp at r2; simpa using r2
        have r2n : ¬ x.ns.length = 0 := by omega
        clear r1 r2
        go_enter Tryz.func57, Tryz.ntmps57
        go_wp2_with (first | (go_at_call 96; refine (isUserI_any _ _).mono ?_; rintro e w' ⟨rfl, rfl⟩) | (go_at_call 98; refine (isGroupI_any _ _).mono ?_; rintro e w' ⟨rfl, rfl⟩) | (go_at_call 66; refine (isModeI_any _ _).mono ?_; rintro e w' ⟨rfl, rfl⟩))
        go_ret
        exact ⟨by rw [hh.out]; rfl, (by (repeat (first | exact Below.refl _ _ | exact Hbl.out | refine Below.ext ?_ (by first | omega | (simp; omega) | simp) | refine Below.setCell ?_ (by first | omega | (simp; omega) | simp) _ | refine Below.alloc ?_ (by first | omega | (simp; omega) | simp) _ | refine Below.drew ?_ | refine below_drewN ?_ _ | refine Below.step (by assumption) (by first | omega | (simp; omega) | simp) ?_)))⟩
      · rw [r1, r2, r3] at hh
        have r1' : (x.tx.size : Int) ≤ 40 := by simp at r1; omega
        have r2n : x.ns.length = 0 := of_decide_eq_true r2
        have r3n : ¬ x.ks.length = 0 := of_decide_eq_false r3
        have r3' : ((x.ks.length : Int) == 0) = false := by simp; simpa using r3n
        have r3b : (x.ks.length == 0) = false := by simp; simpa using r3n
        clear r1 r2 r3
        go_enter Tryz.func57, Tryz.ntmps57
        go_wp2_with (first | (go_at_call 96; refine (isUserI_any _ _).mono ?_; rintro e w' ⟨rfl, rfl⟩) | (go_at_call 98; refine (isGroupI_any _ _).mono ?_; rintro e w' ⟨rfl, rfl⟩) | (go_at_call 66; refine (isModeI_any _ _).mono ?_; rintro e w' ⟨rfl, rfl⟩))
        go_ret
        exact ⟨by rw [hh.out]; rfl, (by (repeat (first | exact Below.refl _ _ | exact Hbl.out | refine Below.ext ?_ (by first | omega | (simp; omega) | simp) | refine Below.setCell ?_ (by first | omega | (simp; omega) | simp) _ | refine Below.alloc ?_ (by first | omega | (simp; omega) | simp) _ | refine Below.drew ?_ | refine below_drewN ?_ _ | refine Below.step (by assumption) (by first | omega | (simp; omega) | simp) ?_)))⟩
      · rw [r1, r2, r3] at hh
        have r1' : (x.tx.size : Int) ≤ 40 := by simp at r1; omega
        have r2n : x.ns.length = 0 := of_decide_eq_true r2
        have r3n : x.ks.length = 0 := of_decide_eq_true r3
        clear r1 r2 r3
        go_enter Tryz.func57, Tryz.ntmps57
        go_wp2_with (first | (go_at_call 96; refine (isUserI_any _ _).mono ?_; rintro e w' ⟨rfl, rfl⟩) | (go_at_call 98; refine (isGroupI_any _ _).mono ?_; rintro e w' ⟨rfl, rfl⟩) | (go_at_call 66; refine (isModeI_any _ _).mono ?_; rintro e w' ⟨rfl, rfl⟩))
        go_ret
        exact ⟨by rw [hh.out]; rfl, (by (repeat (first | exact Below.refl _ _ | exact Hbl.out | refine Below.ext ?_ (by first | omega | (simp; omega) | simp) | refine Below.setCell ?_ (by first | omega | (simp; omega) | simp) _ | refine Below.alloc ?_ (by first | omega | (simp; omega) | simp) _ | refine Below.drew ?_ | refine below_drewN ?_ _ | refine Below.step (by assumption) (by first | omega | (simp; omega) | simp) ?_)))⟩
    · have hh := Lib.hid (Hd.out.trans (show _ = ((List.range x.ns.length).all (nmOk x) && (decide (x.tx.size = 0) && decide (x.ns.length = x.ks.length))) by rw [g1, g2, g3, hfo]; rfl))
      clear Hd
      go_enter Tryz.func57, Tryz.ntmps57
      go_wp2_with (first | (go_at_call 96; refine (isUserI_any _ _).mono ?_; rintro e w' ⟨rfl, rfl⟩) | (go_at_call 98; refine (isGroupI_any _ _).mono ?_; rintro e w' ⟨rfl, rfl⟩) | (go_at_call 66; refine (isModeI_any _ _).mono ?_; rintro e w' ⟨rfl, rfl⟩))
      go_loopw [43] (fun i wr => ∃ k : Nat, k ≤ x.ns.length ∧ i = .int .i64 k ∧ wr = w.alloc (.cells #[.bool true, .int .i64 x.ow, .int .i64 x.gr, .int .i64 x.mo, .string x.tx, .slice nA x.ns.length nC, .slice kA x.ks.length kC] 44) ∧ ∀ j, j < k → nmOk x j = true) (fun i _ => x.ns.length - (intOf i).toNat)
      case atStart => exact ⟨0, Nat.zero_le _, rfl, rfl, fun j hj => by omega⟩
      case round =>
        obtain ⟨k, hk, rfl, rfl, hall⟩ := hrel
        have Hall := Lib.hid hall
        clear hall
        by_cases hlt : k < x.ns.length
        · have hx := nthN_at hlt
          obtain ⟨b1, o1, rfl, hb1, q1⟩ := Hns.out.at_ hx
          have c1 : w.cell? ⟨b1, o1 + k, none⟩ = some (.string (mk (nthN x k))) := by have := q1 0 _ rfl; simpa [EL] using this
          have hsz1 : (mk (nthN x k)).size ≤ maxLen := by rw [mk_size]; have := Hnz.out _ (List.mem_of_getElem? hx); unfold maxLen; omega
          have hN := fun w => nameValid_any (mk (nthN x k)) w hsz1
          rw [mk_data] at hN
          cases r1 : nameB (nthN x k)
          · have hbad := Lib.hid (hh.out.trans (show _ = false by rw [all_bad hlt (show nmOk x k = false by unfold nmOk; rw [r1]; rfl)]; rfl))
            rw [r1] at hN
            have HN := Lib.hid hN
            clear hN q1 hx
            go_wp2_with (go_at_call 51; refine (HN.out _).mono ?_; rintro e w' ⟨rfl, rfl⟩)
            go_ret
            exact ⟨by rw [hbad.out]; rfl, (by (repeat (first | exact Below.refl _ _ | exact Hbl.out | refine Below.ext ?_ (by first | omega | (simp; omega) | simp) | refine Below.setCell ?_ (by first | omega | (simp; omega) | simp) _ | refine Below.alloc ?_ (by first | omega | (simp; omega) | simp) _ | refine Below.drew ?_ | refine below_drewN ?_ _ | refine Below.step (by assumption) (by first | omega | (simp; omega) | simp) ?_)))⟩
          · rw [r1] at hN
            have HN := Lib.hid hN
            by_cases k0 : k = 0
            · have hgood : nmOk x k = true := by unfold nmOk; rw [r1, k0]; rfl
              have Hgood := Lib.hid hgood
              have k0d : decide (0 < k) = false := decide_eq_false (by omega)
              have k0' : ¬ (0 : Int) < (k : Int) := by omega
              have k0n : ¬ 0 < k := by omega
              have Hk0 := Lib.hid k0
              clear hN q1 hx hgood k0
              go_wp2_with (go_at_call 51; refine (HN.out _).mono ?_; rintro e w' ⟨rfl, rfl⟩)
              go_roundw
              case rel => exact ⟨k + 1, hlt, by go_num, (by first | trivial | rfl), fun j hj => by
                by_cases e : j = k
                · subst e; exact Hgood.out
                · exact Hall.out j (by omega)⟩
              case measure => simp [intOf]; omega
            · have hx' : x.ns[k - 1]? = some (nthN x (k - 1)) := nthN_at (by omega)
              obtain ⟨b3, o3, e3, _, q3⟩ := Hns.out.at_ hx'
              cases e3
              have c3 : w.cell? ⟨b1, o1 + (k - 1), none⟩ = some (.string (mk (nthN x (k - 1)))) := by have := q3 0 _ rfl; simpa [EL] using this
              have zk : IntKind.i64.wrap ((k : Int) - 1) = ((k - 1 : Nat) : Int) := by rw [IntWalk.i64_in _ (by omega)]; omega
              have k0n : 0 < k := by omega
              have k0' : (0 : Int) < (k : Int) := by omega
              have zk0 : (0 : Int) ≤ ((k - 1 : Nat) : Int) := by omega
              have zk1 : ((k - 1 : Nat) : Int) < (x.ns.length : Int) := by omega
              cases kl : ltL (nthN x (k - 1)) (nthN x k)
              · have hbad := Lib.hid (hh.out.trans (show _ = false by rw [all_bad hlt (show nmOk x k = false by unfold nmOk; rw [r1, kl]; simp [k0])]; rfl))
                have hcmp : Op.bytesLess (mk (nthN x (k - 1))).toList (mk (nthN x k)).toList = false := by rw [mk_toList, mk_toList]; exact kl
                clear hN q1 q3 hx hx' kl
                go_wp2_with (go_at_call 51; refine (HN.out _).mono ?_; rintro e w' ⟨rfl, rfl⟩)
                go_ret
                exact ⟨by rw [hbad.out]; rfl, (by (repeat (first | exact Below.refl _ _ | exact Hbl.out | refine Below.ext ?_ (by first | omega | (simp; omega) | simp) | refine Below.setCell ?_ (by first | omega | (simp; omega) | simp) _ | refine Below.alloc ?_ (by first | omega | (simp; omega) | simp) _ | refine Below.drew ?_ | refine below_drewN ?_ _ | refine Below.step (by assumption) (by first | omega | (simp; omega) | simp) ?_)))⟩
              · have hcmp : Op.bytesLess (mk (nthN x (k - 1))).toList (mk (nthN x k)).toList = true := by rw [mk_toList, mk_toList]; exact kl
                have hgood : nmOk x k = true := by unfold nmOk; rw [r1, kl]; simp
                have Hgood := Lib.hid hgood
                clear hN q1 q3 hx hx' kl hgood
                go_wp2_with (go_at_call 51; refine (HN.out _).mono ?_; rintro e w' ⟨rfl, rfl⟩)
                go_roundw
                case rel => exact ⟨k + 1, hlt, by go_num, (by first | trivial | rfl), fun j hj => by
                  by_cases e : j = k
                  · subst e; exact Hgood.out
                  · exact Hall.out j (by omega)⟩
                case measure => simp [intOf]; omega
        · have hh2 := Lib.hid (hh.out.trans (show _ = (decide (x.tx.size = 0) && decide (x.ns.length = x.ks.length)) by rw [all_good (fun j hj => Hall.out j (by omega))]; rfl))
          clear hh
          by_cases hs : x.tx.size = 0
          · obtain ⟨f3, f4⟩ := tx_empty hs
            by_cases hnk : x.ns.length = x.ks.length
            · have hr := Lib.hid (hh2.out.trans (show _ = true by simp [hs, hnk]))
              have hnk' : ((x.ns.length : Int) == (x.ks.length : Int)) = true := by simp [hnk]
              clear hs hnk
              go_wp2
              go_ret
              exact ⟨by rw [hr.out]; rfl, (by (repeat (first | exact Below.refl _ _ | exact Hbl.out | refine Below.ext ?_ (by first | omega | (simp; omega) | simp) | refine Below.setCell ?_ (by first | omega | (simp; omega) | simp) _ | refine Below.alloc ?_ (by first | omega | (simp; omega) | simp) _ | refine Below.drew ?_ | refine below_drewN ?_ _ | refine Below.step (by assumption) (by first | omega | (simp; omega) | simp) ?_)))⟩
            · have hr := Lib.hid (hh2.out.trans (show _ = false by simp [hnk]))
              have hnk' : ((x.ns.length : Int) == (x.ks.length : Int)) = false := by simp; omega
              clear hs
              go_wp2
              go_ret
              exact ⟨by rw [hr.out]; rfl, (by (repeat (first | exact Below.refl _ _ | exact Hbl.out | refine Below.ext ?_ (by first | omega | (simp; omega) | simp) | refine Below.setCell ?_ (by first | omega | (simp; omega) | simp) _ | refine Below.alloc ?_ (by first | omega | (simp; omega) | simp) _ | refine Below.drew ?_ | refine below_drewN ?_ _ | refine Below.step (by assumption) (by first | omega | (simp; omega) | simp) ?_)))⟩
          · obtain ⟨f3, f4⟩ := tx_some hs
            have hr := Lib.hid (hh2.out.trans (show _ = false by simp [hs]))
            clear hs
            go_wp2
            go_ret
            exact ⟨by rw [hr.out]; rfl, (by (repeat (first | exact Below.refl _ _ | exact Hbl.out | refine Below.ext ?_ (by first | omega | (simp; omega) | simp) | refine Below.setCell ?_ (by first | omega | (simp; omega) | simp) _ | refine Below.alloc ?_ (by first | omega | (simp; omega) | simp) _ | refine Below.drew ?_ | refine below_drewN ?_ _ | refine Below.step (by assumption) (by first | omega | (simp; omega) | simp) ?_)))⟩
end Go.Proofs.YtkennmpbmbacpaaGreatDoor

namespace Go.Proofs.YtkennmpbmbacpaaGreatDoor
open Go.RowKit

def rowI (t : List Nd) (k : Nat) : Bool := nodeI (kth t k) && (namedB t k && (List.range (kth t k).ks.length).all (downB t k))
def treeI (t : List Nd) : Bool := decide (0 < t.length) && (linksOk t && ((kth t 0).fo && (decide (lnk t 0 ≤ 0) && (List.range t.length).all (rowI t))))
theorem kids_in {t : List Nd} {z : Int} (h : z ∈ kidsOf t) : ∃ k j, k < t.length ∧ j < (kth t k).ks.length ∧ nthK (kth t k) j = z := by
  unfold kidsOf at h
  obtain ⟨x, hx, hz⟩ := List.mem_flatMap.1 h
  obtain ⟨k, hk, e⟩ := List.mem_iff_getElem.1 hx
  have hkx : kth t k = x := by
    have := kth_at hk
    rw [List.getElem?_eq_getElem hk, e] at this
    injection this with this
    exact this.symm
  obtain ⟨j, hj, ej⟩ := List.mem_iff_getElem.1 hz
  have hjx : nthK x j = z := by
    have := nthK_at hj
    rw [List.getElem?_eq_getElem hj, ej] at this
    injection this with this
    exact this.symm
  exact ⟨k, j, hk, by rw [hkx]; exact hj, by rw [hkx]; exact hjx⟩
theorem linksOk_iff {t : List Nd} : linksOk t = true ↔ t.length ≤ 16 ∧ ∀ z ∈ kidsOf t, 0 ≤ z ∧ z ≤ (t.length : Int) - 1 := by
  unfold linksOk
  rw [Bool.and_eq_true, decide_eq_true_eq, List.all_eq_true]
  exact and_congr_right fun _ => ⟨fun h z hz => inB_iffL.1 (h z hz), fun h z hz => inB_iffL.2 (h z hz)⟩
theorem treeI_eq (t : List Nd) : treeI t = treeB t := by
  rw [Bool.eq_iff_iff]
  constructor
  · intro h
    unfold treeI at h
    simp only [Bool.and_eq_true, decide_eq_true_eq] at h
    obtain ⟨h0, h1, h2, h3, h4⟩ := h
    rw [linksOk_iff] at h1
    have hr : ∀ k, k < t.length → rowI t k = true := fun k hk => List.all_eq_true.1 h4 k (List.mem_range.2 hk)
    have hz : ∀ k j, k < t.length → j < (kth t k).ks.length → 1 ≤ nthK (kth t k) j ∧ nthK (kth t k) j ≤ (t.length : Int) - 1 := by
      intro k j hk hj
      have hm := kid_in hk hj
      have h5 := h1.2 _ hm
      refine ⟨?_, h5.2⟩
      by_cases e : nthK (kth t k) j = 0
      · rw [e] at hm
        have : 0 < (kidsOf t).count 0 := List.count_pos_iff.2 hm
        unfold lnk at h3
        simp only [Int.ofNat_zero] at h3
        have h3' : (((kidsOf t).count ((0 : Nat) : Int) : Nat) : Int) ≤ 0 := h3
        have e0 : ((0 : Nat) : Int) = 0 := rfl
        rw [e0] at h3'
        omega
      · omega
    refine tree_good (inB_iffL.2 (by have := h1.1; omega)) h2 (fun k hk => ?_) (fun k hk => ?_)
    · have h5 := hr k hk
      unfold rowI nodeI at h5
      simp only [Bool.and_eq_true] at h5
      obtain ⟨⟨n1, n2, n3, n4⟩, _, h7⟩ := h5
      refine row_good (nodeB_iff.2 ⟨?_, fun j hj => ?_⟩) (fun j hj => List.all_eq_true.1 h7 j (List.mem_range.2 hj))
      · unfold headB
        rw [n1, n2, n3]
        cases hf : (kth t k).fo
        · rw [hf] at n4
          simp only [Bool.false_eq_true, if_false, Bool.and_eq_true, decide_eq_true_eq] at n4
          obtain ⟨m1, m2, m3⟩ := n4
          simp [m1, m2, m3]
        · rw [hf] at n4
          simp only [if_true, Bool.and_eq_true, decide_eq_true_eq] at n4
          obtain ⟨m1, m2, m3⟩ := n4
          simp [m2, m3]
      · cases hf : (kth t k).fo
        · rw [hf] at n4
          simp only [Bool.false_eq_true, if_false, Bool.and_eq_true, decide_eq_true_eq] at n4
          omega
        · rw [hf] at n4
          simp only [if_true, Bool.and_eq_true, decide_eq_true_eq] at n4
          obtain ⟨m1, m2, m3⟩ := n4
          have h8 := List.all_eq_true.1 m1 j (List.mem_range.2 hj)
          unfold nmOk at h8
          simp only [Bool.and_eq_true, Bool.or_eq_true, decide_eq_true_eq] at h8
          exact kidOk_iff.2 ⟨h8.1, hz k j hk (by omega), h8.2⟩
    · have h5 := hr k hk
      unfold rowI at h5
      simp only [Bool.and_eq_true] at h5
      exact h5.2.1
  · intro h
    obtain ⟨a1, a2, a3, a4⟩ := tree_all h
    obtain ⟨l1, l2⟩ := inB_iffL.1 a1
    have hz : ∀ z ∈ kidsOf t, 1 ≤ z ∧ z ≤ (t.length : Int) - 1 := by
      intro z hz
      obtain ⟨k, j, hk, hj, e⟩ := kids_in hz
      have := (node_kids (tree_node h hk)).2 j hj
      rw [e] at this; exact this
    unfold treeI
    simp only [Bool.and_eq_true, decide_eq_true_eq]
    refine ⟨by omega, linksOk_iff.2 ⟨by omega, fun z hz' => by have := hz z hz'; omega⟩, a2, ?_, List.all_eq_true.2 fun k hk => ?_⟩
    · have : (kidsOf t).count ((0 : Nat) : Int) = 0 := List.count_eq_zero.2 (fun hm => by have := hz _ hm; omega)
      unfold lnk
      omega
    · have hk := List.mem_range.1 hk
      have hr := a3 k hk
      unfold rowB at hr
      rw [Bool.and_eq_true] at hr
      obtain ⟨n1, n2⟩ := nodeB_iff.1 hr.1
      unfold rowI
      simp only [Bool.and_eq_true]
      refine ⟨?_, a4 k hk, hr.2⟩
      have hl := head_len n1
      unfold headB at n1
      simp only [Bool.and_eq_true, decide_eq_true_eq, Bool.or_eq_true, Bool.not_eq_true'] at n1
      obtain ⟨m1, m2, m3, m4, m5, m6, m7⟩ := n1
      unfold nodeI
      rw [m1, m2, m3]
      cases hf : (kth t k).fo
      · rw [hf] at m5
        have m5' : (kth t k).ns.length = 0 := by rcases m5 with h | h
                                                 · cases h
                                                 · exact h
        simp [m7, m5', ← hl]
      · rw [hf] at m6
        have m6' : (kth t k).tx.size = 0 := by rcases m6 with h | h
                                               · cases h
                                               · exact h
        simp only [if_true, Bool.true_and, Bool.and_eq_true, decide_eq_true_eq]
        refine ⟨List.all_eq_true.2 fun j hj => ?_, m6', hl⟩
        have := kidOk_iff.1 (n2 j (List.mem_range.1 hj))
        unfold nmOk
        simp only [Bool.and_eq_true, Bool.or_eq_true, decide_eq_true_eq]
        exact ⟨this.1, this.2.2⟩
theorem treeI_no {t : List Nd} (h : linksOk t = false) : treeI t = false := by unfold treeI; rw [h]; simp
theorem treeI_top {t : List Nd} (h : (kth t 0).fo = false) : treeI t = false := by unfold treeI; rw [h]; simp
theorem treeI_zero {t : List Nd} (h : ¬ lnk t 0 ≤ 0) : treeI t = false := by unfold treeI; rw [decide_eq_false h]; simp
theorem treeI_empty {t : List Nd} (h : t.length = 0) : treeI t = false := by unfold treeI; rw [h]; simp
theorem treeI_row {t : List Nd} {k : Nat} (hk : k < t.length) (h : rowI t k = false) : treeI t = false := by unfold treeI; rw [all_bad hk h]; simp
theorem links_no {t : List Nd} (h : linksOk t = false) : linksF t = [] := by unfold linksF; rw [h]; rfl
theorem links_yes {t : List Nd} (h : linksOk t = true) : linksF t = cntL t.length (kidsOf t) := by unfold linksF; rw [h]; rfl
set_option maxRecDepth 100000 in
set_option maxHeartbeats 8000000 in
theorem treeI_of (v : Value) (t : List Nd) (w : World) (h : TreeR w v t) (ht : t.length ≤ 1000) (hkz : (kidsOf t).length ≤ 1000000) :
    Calls Tryz.prog 18 #[v] w fun e w' => e = .returned (.bool (treeB t)) ∧ Below w.heap.size w w' := by
  rw [← treeI_eq]
  have H := Lib.hid h
  have hlk := fun w h => linksI_of v t w h ht hkz
  obtain ⟨A, cap, rfl⟩ := h.shape
  have Hlk := Lib.hid hlk
  have hcap := h.caps
  clear h hlk
  go_enter Tryz.func18, Tryz.ntmps18
  go_wp2_with fail
  refine (Hlk.out _ H.out).mono ?_
  rintro e w1 ⟨v1, rfl, o1, b1⟩
  have B1 := Lib.hid b1
  have hz1 := b1.size
  by_cases hn0 : t.length = 0
  · have hr := Lib.hid (treeI_empty hn0)
    clear b1 o1
    go_wp2
    go_ret
    exact ⟨by rw [hr.out]; rfl, B1.out⟩
  · have n3 : 0 < t.length := by omega
    have n4 : ((t.length : Int) == 0) = false := beq_eq_false_iff_ne.2 (by omega)
    have n4b : (t.length == 0) = false := beq_eq_false_iff_ne.2 (by omega)
    cases hok : linksOk t
    · have hr := Lib.hid (treeI_no hok)
      rw [links_no hok] at o1
      obtain ⟨A1, c1, rfl⟩ := ownG_shape o1
      have n5 : (0 : Int) < (t.length : Int) := by omega
      clear b1 o1
      go_wp2
      go_ret
      exact ⟨by rw [hr.out]; rfl, B1.out⟩
    · have hle := (linksOk_iff.1 hok).1
      rw [links_yes hok] at o1
      have hsl := ownG_sl o1
      obtain ⟨A1, c1, rfl⟩ := hsl.shape
      have hlen := cntL_len t.length (kidsOf t)
      rw [hlen] at hsl
      rw [hlen]
      have Hsl := Lib.hid hsl
      have c0 := cntL_get (n := t.length) (P := kidsOf t) n3
      obtain ⟨b2, o2, rfl, hb2, q2⟩ := hsl.at_ c0
      have c2 : w1.cell? ⟨b2, o2, none⟩ = some (.int .i64 (lnk t 0)) := by have := q2 0 _ rfl; simpa [EI, lnk] using this
      obtain ⟨b, off, nA, nC, kA, kC, rfl, hb, _, q0, _, _, _, _, _, _⟩ := H.out.at2 b1 (kth_at n3)
      rw [Nat.zero_mul, Nat.add_zero] at q0
      have Hok := Lib.hid hok
      have Hkin := Lib.hid (fun (k j : Nat) (hk : k < t.length) (hj : j < (kth t k).ks.length) => (linksOk_iff.1 hok).2 _ (kid_in hk hj))
      clear b1 o1 hsl c0 q2 hlen hok
      cases hf0 : (kth t 0).fo
      · have hr := Lib.hid (treeI_top hf0)
        rw [hf0] at q0
        go_wp2
        go_ret
        exact ⟨by rw [hr.out]; rfl, B1.out⟩
      · rw [hf0] at q0
        have Hf0 := Lib.hid hf0
        clear hf0
        by_cases hl0 : lnk t 0 ≤ 0
        · have hl0' : ¬ 0 < lnk t 0 := by omega
          have Hl0 := Lib.hid hl0
          generalize hlz : lnk t 0 = l0 at c2 hl0'
          clear hlz hl0
          have hl0d : decide (0 < l0) = false := decide_eq_false hl0'
          go_wp2
          go_loopw [35] (fun i wr => ∃ k : Nat, k ≤ t.length ∧ i = .int .i64 k ∧ Below w1.heap.size w1 wr ∧ ∀ m, m < k → rowI t m = true) (fun i _ => t.length - (intOf i).toNat)
          case atStart => exact ⟨0, Nat.zero_le _, rfl, Below.refl _ _, fun m hm => by omega⟩
          case round =>
            obtain ⟨k, hk, rfl, hB, hall⟩ := hrel
            have HB := Lib.hid hB
            have HB1 := Lib.hid (Below.step hB hz1 B1.out)
            have Hall := Lib.hid hall
            have hzr := hB.size
            by_cases hlt : k < t.length
            · obtain ⟨b', off', nA, nC, kA, kC, ee, hb', hS, q0, q1, q2, q3, q4, q5, q6⟩ := H.out.at2 HB1.out (kth_at hlt)
              cases ee
              have hkc := hS.ks.caps
              have HS := Lib.hid hS
              have hlt' : (k : Int) < (t.length : Int) := by omega
              have zk : IntKind.i64.wrap ((k : Int) + 1) = (k : Int) + 1 := IntWalk.i64_in _ (by omega)
              obtain ⟨b3, o3, ee, hb3, c⟩ := Hsl.out.at_ (cntL_get hlt)
              cases ee
              have c3 : wr.cell? ⟨b2, o2 + k, none⟩ = some (.int .i64 (lnk t k)) := (hB.cell (p := ⟨b2, o2 + k, none⟩) hb3).trans (by have := c 0 _ rfl; simpa [EI, lnk] using this)
              have hnd := fun w h => nodeI_of nA nC kA kC (kth t k) w h
              have hxn : ∀ x, namedB t k = x ↔ (decide (k = 0) || (decide (1 ≤ lnk t k) && (!(kth t k).fo || decide (lnk t k ≤ 1)))) = x := fun x => Iff.rfl
              have hxr : ∀ x, rowI t k = x ↔ (nodeI (kth t k) && (namedB t k && (List.range (kth t k).ks.length).all (downB t k))) = x := fun x => Iff.rfl
              have Hxn := Lib.hid hxn
              have Hxr := Lib.hid hxr
              have Hnd := Lib.hid hnd
              clear hB hall hS c hxn hxr hnd
              have hz0 : 0 ≤ lnk t k := by unfold lnk; omega
              generalize lnk t k = z at c3 Hxn hz0
              cases hn : nodeI (kth t k)
              · have hr := Lib.hid (treeI_row hlt ((Hxr.out false).2 (by rw [hn]; rfl)))
                rw [hn] at Hnd
                clear hn
                go_wp2_with (go_at_call 57; refine (Hnd.out _ (HS.out.below (Below.trans HB1.out (by (repeat (first | exact Below.refl _ _ | exact Hbl.out | refine Below.ext ?_ (by first | omega | (simp; omega) | simp) | refine Below.setCell ?_ (by first | omega | (simp; omega) | simp) _ | refine Below.alloc ?_ (by first | omega | (simp; omega) | simp) _ | refine Below.drew ?_ | refine below_drewN ?_ _ | refine Below.step (by assumption) (by first | omega | (simp; omega) | simp) ?_)))))).mono ?_; rintro e w2 ⟨rfl, hb⟩; obtain ⟨d1, os1, rfl⟩ := ext_of_below hb; clear hb)
                go_ret
                exact ⟨by rw [hr.out]; rfl, Below.step (show Below wr.heap.size wr _ from (by (repeat (first | exact Below.refl _ _ | exact Hbl.out | refine Below.ext ?_ (by first | omega | (simp; omega) | simp) | refine Below.setCell ?_ (by first | omega | (simp; omega) | simp) _ | refine Below.alloc ?_ (by first | omega | (simp; omega) | simp) _ | refine Below.drew ?_ | refine below_drewN ?_ _ | refine Below.step (by assumption) (by first | omega | (simp; omega) | simp) ?_)))) (by omega) HB1.out⟩
              · rw [hn] at Hnd
                have hzd : (k = 0 ∧ ¬ (0 : Int) < (k : Int) ∧ namedB t k = true) ∨ ((0 : Int) < (k : Int) ∧ z = 0 ∧ namedB t k = false) ∨ ((0 : Int) < (k : Int) ∧ ¬ z = 0 ∧ (kth t k).fo = false ∧ namedB t k = true) ∨ ((0 : Int) < (k : Int) ∧ ¬ z = 0 ∧ (kth t k).fo = true ∧ 1 < z ∧ namedB t k = false) ∨ ((0 : Int) < (k : Int) ∧ ¬ z = 0 ∧ (kth t k).fo = true ∧ ¬ 1 < z ∧ namedB t k = true) := by
                  by_cases k0 : k = 0
                  · exact .inl ⟨k0, by omega, (Hxn.out true).2 (by simp [k0])⟩
                  · have k1 : (0 : Int) < (k : Int) := by omega
                    by_cases z0 : z = 0
                    · exact .inr (.inl ⟨k1, z0, (Hxn.out false).2 (by simp [k0, z0])⟩)
                    · have z1 : 1 ≤ z := by omega
                      cases hf : (kth t k).fo
                      · exact .inr (.inr (.inl ⟨k1, z0, rfl, (Hxn.out true).2 (by rw [hf]; simp [z1])⟩))
                      · by_cases z2 : 1 < z
                        · exact .inr (.inr (.inr (.inl ⟨k1, z0, rfl, z2, (Hxn.out false).2 (by rw [hf]; simp [k0]; omega)⟩)))
                        · exact .inr (.inr (.inr (.inr ⟨k1, z0, rfl, z2, (Hxn.out true).2 (by rw [hf]; simp [z1]; omega)⟩)))
                have Hn := Lib.hid hn
                clear hn hz0
                rcases hzd with ⟨k0, k1, hnm⟩ | ⟨k1, z0, hnm⟩ | ⟨k1, z0, hf, hnm⟩ | ⟨k1, z0, hf, z2, hnm⟩ | ⟨k1, z0, hf, z2, hnm⟩
                rotate_left
                · have hr := Lib.hid (treeI_row hlt ((Hxr.out false).2 (by rw [hnm, Bool.false_and, Bool.and_false])))
                  clear hnm
                  go_wp2_with (go_at_call 57; refine (Hnd.out _ (HS.out.below (Below.trans HB1.out (by (repeat (first | exact Below.refl _ _ | exact Hbl.out | refine Below.ext ?_ (by first | omega | (simp; omega) | simp) | refine Below.setCell ?_ (by first | omega | (simp; omega) | simp) _ | refine Below.alloc ?_ (by first | omega | (simp; omega) | simp) _ | refine Below.drew ?_ | refine below_drewN ?_ _ | refine Below.step (by assumption) (by first | omega | (simp; omega) | simp) ?_)))))).mono ?_; rintro e w2 ⟨rfl, hb⟩; obtain ⟨d1, os1, rfl⟩ := ext_of_below hb; clear hb)
                  go_ret
                  exact ⟨by rw [hr.out]; rfl, Below.step (show Below wr.heap.size wr _ from (by (repeat (first | exact Below.refl _ _ | exact Hbl.out | refine Below.ext ?_ (by first | omega | (simp; omega) | simp) | refine Below.setCell ?_ (by first | omega | (simp; omega) | simp) _ | refine Below.alloc ?_ (by first | omega | (simp; omega) | simp) _ | refine Below.drew ?_ | refine below_drewN ?_ _ | refine Below.step (by assumption) (by first | omega | (simp; omega) | simp) ?_)))) (by omega) HB1.out⟩
                rotate_left
                · have hr := Lib.hid (treeI_row hlt ((Hxr.out false).2 (by rw [hnm, Bool.false_and, Bool.and_false])))
                  rw [hf] at q0 Hnd
                  clear hnm hf
                  go_wp2_with (go_at_call 57; refine (Hnd.out _ (HS.out.below (Below.trans HB1.out (by (repeat (first | exact Below.refl _ _ | exact Hbl.out | refine Below.ext ?_ (by first | omega | (simp; omega) | simp) | refine Below.setCell ?_ (by first | omega | (simp; omega) | simp) _ | refine Below.alloc ?_ (by first | omega | (simp; omega) | simp) _ | refine Below.drew ?_ | refine below_drewN ?_ _ | refine Below.step (by assumption) (by first | omega | (simp; omega) | simp) ?_)))))).mono ?_; rintro e w2 ⟨rfl, hb⟩; obtain ⟨d1, os1, rfl⟩ := ext_of_below hb; clear hb)
                  go_ret
                  exact ⟨by rw [hr.out]; rfl, Below.step (show Below wr.heap.size wr _ from (by (repeat (first | exact Below.refl _ _ | exact Hbl.out | refine Below.ext ?_ (by first | omega | (simp; omega) | simp) | refine Below.setCell ?_ (by first | omega | (simp; omega) | simp) _ | refine Below.alloc ?_ (by first | omega | (simp; omega) | simp) _ | refine Below.drew ?_ | refine below_drewN ?_ _ | refine Below.step (by assumption) (by first | omega | (simp; omega) | simp) ?_)))) (by omega) HB1.out⟩
                rotate_right
                all_goals
                  have Hnm := Lib.hid hnm
                  clear hnm
                  try (rw [hf] at q0 Hnd; clear hf)
                  try have z0b : (z == 0) = false := beq_eq_false_iff_ne.2 z0
                  try have z2d : decide (1 < z) = false := decide_eq_false z2
                  try have k1d : decide ((0 : Int) < (k : Int)) = true := decide_eq_true k1
                  try have k1n : decide (0 < k) = true := decide_eq_true (by omega)
                  try have k1d : decide ((0 : Int) < (k : Int)) = false := decide_eq_false k1
                  try have k1n : decide (0 < k) = false := decide_eq_false (by omega)
                  try clear k0
                  go_wp2_with (go_at_call 57; refine (Hnd.out _ (HS.out.below (Below.trans HB1.out (by (repeat (first | exact Below.refl _ _ | exact Hbl.out | refine Below.ext ?_ (by first | omega | (simp; omega) | simp) | refine Below.setCell ?_ (by first | omega | (simp; omega) | simp) _ | refine Below.alloc ?_ (by first | omega | (simp; omega) | simp) _ | refine Below.drew ?_ | refine below_drewN ?_ _ | refine Below.step (by assumption) (by first | omega | (simp; omega) | simp) ?_)))))).mono ?_; rintro e w2 ⟨rfl, hb⟩; obtain ⟨d1, os1, rfl⟩ := ext_of_below hb; clear hb)
                  go_loopw [72] (fun i wq => ∃ j : Nat, j ≤ (kth t k).ks.length ∧ i = .int .i64 j ∧ Below wr.heap.size wr wq ∧ ∀ m, m < j → downB t k m = true) (fun i _ => (kth t k).ks.length - (intOf i).toNat)
                  case atStart => exact ⟨0, Nat.zero_le _, rfl, (by (repeat (first | exact Below.refl _ _ | exact Hbl.out | refine Below.ext ?_ (by first | omega | (simp; omega) | simp) | refine Below.setCell ?_ (by first | omega | (simp; omega) | simp) _ | refine Below.alloc ?_ (by first | omega | (simp; omega) | simp) _ | refine Below.drew ?_ | refine below_drewN ?_ _ | refine Below.step (by assumption) (by first | omega | (simp; omega) | simp) ?_))), fun m hm => by omega⟩
                  case round =>
                    obtain ⟨j, hj, rfl, hB, hdn⟩ := hrel
                    have HBr := Lib.hid hB
                    have HBq := Lib.hid (Below.step hB hzr HB.out)
                    have HBw := Lib.hid (Below.trans HB1.out (Below.mono hB (by omega)))
                    have Hdn := Lib.hid hdn
                    clear hB hdn
                    by_cases hjl : j < (kth t k).ks.length
                    · have zj : IntKind.i64.wrap ((j : Int) + 1) = (j : Int) + 1 := IntWalk.i64_in _ (by omega)
                      obtain ⟨b4, o4, rfl, hb4, c⟩ := HS.out.ks.at_ (nthK_at hjl)
                      have c4 : wr.cell? ⟨b4, o4 + j, none⟩ = some (.int .i64 (nthK (kth t k) j)) := (HBw.out.cell (p := ⟨b4, o4 + j, none⟩) hb4).trans (by have := c 0 _ rfl; simpa [EI] using this)
                      obtain ⟨y0, y1⟩ := Hkin.out k j hlt hjl
                      have hzd : ∀ x, downB t k j = x ↔ (!((kth t (nthK (kth t k) j).toNat).fo && decide (nthK (kth t k) j ≤ (k : Int)))) = x := fun x => Iff.rfl
                      have Hzd := Lib.hid hzd
                      generalize nthK (kth t k) j = y at c4 y0 y1 Hzd
                      obtain ⟨b', off', nA', nC', kA', kC', ee, _, _, p0, _⟩ := H.out.at2 HBw.out (kth_at (show y.toNat < t.length by omega))
                      cases ee
                      have y3 : y < (t.length : Int) := by omega
                      clear c hzd y1
                      cases hff : (kth t y.toNat).fo
                      · rw [hff] at p0
                        have hd := Lib.hid ((Hzd.out true).2 (by rw [hff]; rfl))
                        clear hff
                        go_wp2
                        go_roundw
                        case rel => exact ⟨j + 1, hjl, by go_num, HBr.out, fun m hm => by
                          by_cases e : m = j
                          · subst e; exact hd.out
                          · exact Hdn.out m (by omega)⟩
                        case measure => simp [intOf]; omega
                      · rw [hff] at p0
                        by_cases hle : y ≤ (k : Int)
                        · have hd := Lib.hid (treeI_row hlt ((Hxr.out false).2 (by rw [all_bad hjl ((Hzd.out false).2 (by rw [hff]; simp [hle])), Bool.and_false, Bool.and_false])))
                          clear hff
                          go_wp2
                          go_ret
                          exact ⟨by rw [hd.out]; rfl, HBw.out⟩
                        · have hd := Lib.hid ((Hzd.out true).2 (by rw [hff]; simp [hle]))
                          clear hff
                          go_wp2
                          go_roundw
                          case rel => exact ⟨j + 1, hjl, by go_num, HBr.out, fun m hm => by
                            by_cases e : m = j
                            · subst e; exact hd.out
                            · exact Hdn.out m (by omega)⟩
                          case measure => simp [intOf]; omega
                    · obtain rfl : j = (kth t k).ks.length := by omega
                      have hrow := Lib.hid ((Hxr.out true).2 (by rw [Hn.out, Hnm.out, all_good Hdn.out]; rfl))
                      go_wp2
                      go_roundw
                      case rel => exact ⟨k + 1, hlt, by go_num, HBq.out, fun m hm => by
                        by_cases e : m = k
                        · subst e; exact hrow.out
                        · exact Hall.out m (by omega)⟩
                      case measure => simp [intOf]; omega
            · obtain rfl : k = t.length := by omega
              have hr : treeI t = true := by
                unfold treeI
                rw [decide_eq_true n3, Hok.out, Hf0.out, decide_eq_true Hl0.out, all_good Hall.out]; rfl
              have Hr := Lib.hid hr
              clear hr hB hall
              go_wp2
              go_ret
              exact ⟨by rw [Hr.out]; rfl, HB1.out⟩
        · have hl0' : 0 < lnk t 0 := by omega
          have hr := Lib.hid (treeI_zero hl0)
          generalize hlz : lnk t 0 = l0 at c2 hl0'
          clear hlz hl0
          go_wp2
          go_ret
          exact ⟨by rw [hr.out]; rfl, B1.out⟩
end Go.Proofs.YtkennmpbmbacpaaGreatDoor

namespace Go.Proofs.YtkennmpbmbacpaaGreatDoor
open Go.RowKit

def QuietB (w : World) (b : Bool) (e : Ending) (w' : World) : Prop := e = .returned (.bool b) ∧ ∃ n, w' = w.drewN n
theorem quietB_self {P : Program} {f : FuncId} {args : Array Value} {w : World} {n : Nat} {b : Bool}
    (h : Calls P f args (w.drewN n) (QuietB (w.drewN n) b)) : Calls P f args (w.drewN n) fun e w'' => e = .returned (.bool b) ∧ ∃ k, w'' = w.drewN (n + k) :=
  h.mono fun _ _ ⟨he, m, hm⟩ => ⟨he, m, by rw [hm]; simp [World.drewN, Nat.add_assoc]⟩
def nthL {α : Type} [Inhabited α] (l : List α) (k : Nat) : α := l.getD k default
theorem nthL_at {α : Type} [Inhabited α] {l : List α} {k : Nat} (h : k < l.length) : l[k]? = some (nthL l k) := by
  unfold nthL
  rw [List.getD_eq_getElem?_getD, List.getElem?_eq_getElem h]; rfl
theorem list_same {α : Type} [Inhabited α] {l m : List α} (hl : l.length = m.length) (h : ∀ j, j < l.length → nthL l j = nthL m j) : l = m := by
  apply List.ext_getElem?
  intro i
  by_cases hi : i < l.length
  · rw [nthL_at hi, nthL_at (by omega), h i hi]
  · rw [List.getElem?_eq_none (by omega), List.getElem?_eq_none (by omega)]
set_option maxHeartbeats 4000000 in
theorem sameInts_of (u v : Value) (l m : List Int) (w : World) (hu : SlG EI w u l) (hv : SlG EI w v m) : Calls Tryz.prog 49 #[u, v] w (QuietB w (decide (l = m))) := by
  have Hu := Lib.hid hu
  have Hv := Lib.hid hv
  obtain ⟨A, c, rfl⟩ := hu.shape
  obtain ⟨B, d, rfl⟩ := hv.shape
  have hcl := hu.caps
  clear hu hv
  by_cases hl : l.length = m.length
  · have hl' : (l.length : Int) = (m.length : Int) := by omega
    have Hl := Lib.hid hl
    clear hl
    go_enter Tryz.func49, Tryz.ntmps49
    go_wp2
    go_loopw [5] (fun i wr => ∃ k n : Nat, k ≤ l.length ∧ i = .int .i64 k ∧ wr = w.drewN n ∧ ∀ j, j < k → nthL l j = nthL m j) (fun i _ => l.length - (intOf i).toNat)
    case atStart => exact ⟨0, 0, Nat.zero_le _, rfl, rfl, fun j hj => by omega⟩
    case round =>
      obtain ⟨k, n, hk, rfl, rfl, hall⟩ := hrel
      have Hall := Lib.hid hall
      clear hall
      by_cases hlt : k < l.length
      · have hlt2 : k < m.length := by have := Hl.out; omega
        obtain ⟨b1, o1, rfl, hb1, h1⟩ := Hu.out.at_ (nthL_at hlt)
        obtain ⟨b2, o2, rfl, hb2, h2⟩ := Hv.out.at_ (nthL_at hlt2)
        have c0 : w.cell? ⟨b1, o1 + k, none⟩ = some (.int .i64 (nthL l k)) := by have := h1 0 _ rfl; simpa [EI] using this
        have d0 : w.cell? ⟨b2, o2 + k, none⟩ = some (.int .i64 (nthL m k)) := by have := h2 0 _ rfl; simpa [EI] using this
        have zk : IntKind.i64.wrap ((k : Int) + 1) = (k : Int) + 1 := IntWalk.i64_in _ (by omega)
        clear h1 h2
        by_cases he : nthL l k = nthL m k
        · have He := Lib.hid he
          rw [← he] at d0
          generalize nthL l k = x at c0 d0
          clear he
          go_wp2_with fail
          go_quiet (fail)
          go_wp2
          go_roundw
          case rel => exact ⟨k + 1, _, hlt, by go_num, (by first | rfl | simp [World.drewN]), fun j hj => by
            by_cases e : j = k
            · subst e; exact He.out
            · exact Hall.out j (by omega)⟩
          case measure => simp [intOf]; omega
        · have hne : decide (l = m) = false := decide_eq_false (fun e => he (by rw [e]))
          have Hne := Lib.hid hne
          have heb : (nthL l k != nthL m k) = true := by simp [he]
          generalize nthL l k = x at c0 heb
          generalize nthL m k = y at d0 heb
          clear he hne
          go_wp2_with fail
          go_quiet (fail)
          go_wp2
          go_ret
          exact ⟨by rw [Hne.out]; rfl, n + nq, by simp [World.drewN, Nat.add_assoc]⟩
      · have hr : decide (l = m) = true := decide_eq_true (list_same Hl.out (fun j hj => Hall.out j (by omega)))
        have Hr := Lib.hid hr
        clear hr
        go_wp2
        go_ret
        exact ⟨by rw [Hr.out]; rfl, _, rfl⟩
  · have hr : decide (l = m) = false := decide_eq_false (fun e => hl (by rw [e]))
    have Hr := Lib.hid hr
    have hl' : ¬ (l.length : Int) = (m.length : Int) := by omega
    clear hr
    go_enter Tryz.func49, Tryz.ntmps49
    go_wp2
    go_ret
    exact ⟨by rw [Hr.out]; rfl, 0, rfl⟩
set_option maxHeartbeats 4000000 in
theorem sameTexts_of (u v : Value) (l m : List (List UInt8)) (w : World) (hu : SlG EL w u l) (hv : SlG EL w v m) : Calls Tryz.prog 48 #[u, v] w (QuietB w (decide (l = m))) := by
  have Hu := Lib.hid hu
  have Hv := Lib.hid hv
  obtain ⟨A, c, rfl⟩ := hu.shape
  obtain ⟨B, d, rfl⟩ := hv.shape
  have hcl := hu.caps
  clear hu hv
  by_cases hl : l.length = m.length
  · have hl' : (l.length : Int) = (m.length : Int) := by omega
    have Hl := Lib.hid hl
    clear hl
    go_enter Tryz.func48, Tryz.ntmps48
    go_wp2
    go_loopw [5] (fun i wr => ∃ k n : Nat, k ≤ l.length ∧ i = .int .i64 k ∧ wr = w.drewN n ∧ ∀ j, j < k → nthL l j = nthL m j) (fun i _ => l.length - (intOf i).toNat)
    case atStart => exact ⟨0, 0, Nat.zero_le _, rfl, rfl, fun j hj => by omega⟩
    case round =>
      obtain ⟨k, n, hk, rfl, rfl, hall⟩ := hrel
      have Hall := Lib.hid hall
      clear hall
      by_cases hlt : k < l.length
      · have hlt2 : k < m.length := by have := Hl.out; omega
        obtain ⟨b1, o1, rfl, hb1, h1⟩ := Hu.out.at_ (nthL_at hlt)
        obtain ⟨b2, o2, rfl, hb2, h2⟩ := Hv.out.at_ (nthL_at hlt2)
        have c0 : w.cell? ⟨b1, o1 + k, none⟩ = some (.string (mk (nthL l k))) := by have := h1 0 _ rfl; simpa [EL] using this
        have d0 : w.cell? ⟨b2, o2 + k, none⟩ = some (.string (mk (nthL m k))) := by have := h2 0 _ rfl; simpa [EL] using this
        have zk : IntKind.i64.wrap ((k : Int) + 1) = (k : Int) + 1 := IntWalk.i64_in _ (by omega)
        clear h1 h2
        by_cases he : nthL l k = nthL m k
        · have He := Lib.hid he
          rw [← he] at d0
          generalize nthL l k = x at c0 d0
          clear he
          go_wp2_with fail
          go_quiet (fail)
          go_wp2
          go_roundw
          case rel => exact ⟨k + 1, _, hlt, by go_num, (by first | rfl | simp [World.drewN]), fun j hj => by
            by_cases e : j = k
            · subst e; exact He.out
            · exact Hall.out j (by omega)⟩
          case measure => simp [intOf]; omega
        · have hne : decide (l = m) = false := decide_eq_false (fun e => he (by rw [e]))
          have Hne := Lib.hid hne
          have e1 : ¬ (mk (nthL l k)).toList = (mk (nthL m k)).toList := by rw [mk_toList, mk_toList]; exact he
          have e2 : ((mk (nthL l k)).toList == (mk (nthL m k)).toList) = false := beq_eq_false_iff_ne.2 e1
          generalize nthL l k = x at c0 e1 e2
          generalize nthL m k = y at d0 e1 e2
          clear he hne
          go_wp2_with fail
          go_quiet (fail)
          go_wp2
          go_ret
          exact ⟨by rw [Hne.out]; rfl, n + nq, by simp [World.drewN, Nat.add_assoc]⟩
      · have hr : decide (l = m) = true := decide_eq_true (list_same Hl.out (fun j hj => Hall.out j (by omega)))
        have Hr := Lib.hid hr
        clear hr
        go_wp2
        go_ret
        exact ⟨by rw [Hr.out]; rfl, _, rfl⟩
  · have hr : decide (l = m) = false := decide_eq_false (fun e => hl (by rw [e]))
    have Hr := Lib.hid hr
    have hl' : ¬ (l.length : Int) = (m.length : Int) := by omega
    clear hr
    go_enter Tryz.func48, Tryz.ntmps48
    go_wp2
    go_ret
    exact ⟨by rw [Hr.out]; rfl, 0, rfl⟩
end Go.Proofs.YtkennmpbmbacpaaGreatDoor
