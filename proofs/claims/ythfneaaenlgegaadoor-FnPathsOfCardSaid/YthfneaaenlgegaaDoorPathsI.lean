/- The package's 'pathsOf' and 'PathsOf'. -/
import Derived.Test.YthfneaaenlgegaaDoorFindI
import Derived.Test.YthfneaaenlgegaaDoorMF
import Derived.Test.YthfneaaenlgegaaDoorME
import Derived.Deep.RegionHeld3
set_option linter.unusedSimpArgs false
set_option linter.unusedVariables false
set_option linter.unusedSectionVars false
namespace Go.Proofs.YthfneaaenlgegaaDoor
open Go.RowKit

set_option maxRecDepth 100000 in
theorem nilL_none (n cap : Nat) (w : World) : (binOp .eql 25 (.slice none n cap) (.slice none 0 0)).run Tryd.prog w = .ok (.bool true) w := rfl
set_option maxRecDepth 100000 in
theorem nilL_some (ad : Addr) (n cap : Nat) (w : World) : (binOp .eql 25 (.slice (some ad) n cap) (.slice none 0 0)).run Tryd.prog w = .ok (.bool false) w := rfl
set_option maxHeartbeats 1000000 in
/-- slices.Clone at []string. -/
theorem cloneL_of (v : Value) (l : List (List UInt8)) (w : World) (h : SlG EL w v l) (hl : l.length ≤ 1000000) : Calls Tryd.prog 77 #[v] w fun e w' => ∃ v', e = .returned v' ∧ OwnG EL 9 w.heap.size w' v' l ∧ Below w.heap.size w w' := by
  have H := Lib.hid h
  obtain ⟨A, cap, rfl⟩ := h.shape
  cases A with
  | none =>
    have hl0 : l = [] := by
      obtain ⟨A', c', e, _, _, h3⟩ := h
      rcases h3 with h3 | ⟨b, off, e2, _⟩
      · exact h3
      · injection e with e1 _ _
        rw [e2] at e1; cases e1
    subst hl0
    have he := nilL_none 0 cap
    clear h
    go_enter Tryd.func77, Tryd.ntmps77
    go_wp2
    go_ret
    exact ⟨_, rfl, ownG_none _ _, (by (repeat (first | exact Below.refl _ _ | exact Hbl.out | refine Below.ext ?_ (by first | omega | (simp; omega) | simp) | refine Below.setCell ?_ (by first | omega | (simp; omega) | simp) _ | refine Below.alloc ?_ (by first | omega | (simp; omega) | simp) _ | refine Below.drew ?_ | refine below_drewN ?_ _ | refine Below.step (by assumption) (by first | omega | (simp; omega) | simp) ?_)))⟩
  | some ad =>
    have he := nilL_some ad l.length cap
    clear h
    go_enter Tryd.func77, Tryd.ntmps77
    go_wp2_with (at_builtin; refine wpList_appG fitEL _ rfl (.tmp 5) (.tmp 6) rfl w.heap.size (.slice (some ⟨_, 0, none⟩) 0 0) [] rfl ?cO _ l rfl ?cS ?cL ?cB ?_)
    case cO => exact ownG_empty _ rfl (Nat.le_refl _)
    case cS => exact H.out.below (Below.alloc (Below.refl _ _) (Nat.le_refl _) _)
    case cL => simp; omega
    case cB => simp
    intro v4 w4 ⟨o4, g4, a4⟩ hb4
    obtain ⟨A4, c4, rfl⟩ := ownG_shape o4
    have O4 := Lib.hid o4
    clear o4 g4 a4
    go_wp2
    all_goals
      go_ret
      exact ⟨_, rfl, O4.out, Below.step hb4 (Nat.le_refl _) (Below.alloc (Below.refl _ _) (Nat.le_refl _) _)⟩
/-- The paths from node n on, told by how long a path may still be. -/
def pathsG (t : List Nd) : Nat → Int → List (List UInt8) → List (List UInt8)
  | 0, _, _ => []
  | e + 1, n, ps => joinP ps :: (List.range (kth t n.toNat).ns.length).flatMap fun k => pathsG t e (nthK (kth t n.toNat) k) (ps ++ [nthN (kth t n.toNat) k])
theorem pathsG_eq (t : List Nd) : ∀ (d : Nat) (n : Int) (ps : List (List UInt8)), pathsG t (d + 1) n ps = pathsF t d n ps
  | 0, n, ps => by
    show joinP ps :: ((List.range (kth t n.toNat).ns.length).flatMap fun _ => ([] : List (List UInt8))) = [joinP ps]
    rw [List.flatMap_eq_nil_iff.2 (fun _ _ => rfl)]
  | d + 1, n, ps => by
    show joinP ps :: _ = joinP ps :: _
    congr 1
    congr 1
    funext k
    exact pathsG_eq t d _ _
/-- What a call that adds P to a row of the call's own leaves. -/
def Added (T : TypeId) (B : Nat) (w : World) (v : Value) (l : List (List UInt8)) (v' : Value) (w' : World) : Prop :=
  OwnG EL T B w' v' l ∧ w.grownBy w' v.ownBlock ∧ (v'.ownBlock = v.ownBlock ∨ ∃ j, v'.ownBlock = some j ∧ w.heap.size ≤ j)
theorem grown_below {w w' : World} (h : Below w.heap.size w w') (row : Option Nat) : w.grownBy w' row := ⟨h.os, h.tape, h.output, h.size, fun k hk _ => h.block k hk⟩
theorem grown_step {a b c : World} {r1 r2 : Option Nat} (h : a.grownBy b r1) (k : b.grownBy c r2) (hr : r2 = r1 ∨ ∃ j, r2 = some j ∧ a.heap.size ≤ j) : a.grownBy c r1 :=
  ⟨k.os.trans h.os, k.tape.trans h.tape, k.output.trans h.output, Nat.le_trans h.size k.size, fun i hi hne => (k.block i (Nat.lt_of_lt_of_le hi h.size) (fun e => by
    rcases hr with rfl | ⟨j, rfl, hj⟩
    · exact hne e
    · injection e with e; omega)).trans (h.block i hi hne)⟩
theorem Added.step {T : TypeId} {B : Nat} {w wr w3 w4 : World} {v o o2 : Value} {l l2 : List (List UInt8)} (h : Added T B w v l o wr) (t : Below wr.heap.size wr w3) (h2 : Added T B w3 o l2 o2 w4) : Added T B w v l2 o2 w4 := by
  have hz := h.2.1.size
  have hz2 := t.size
  refine ⟨h2.1, grown_step (Lib.grownBy_below h.2.1 t) h2.2.1 h.2.2, ?_⟩
  rcases h2.2.2 with e | ⟨j, e, hj⟩
  · rw [e]; exact h.2.2
  · exact .inr ⟨j, e, by omega⟩
theorem sep_low {a b : Option Nat} {N : Nat} (h1 : ∀ j, a = some j → N ≤ j) (h2 : ∀ j, b = some j → j < N) : Sep a b := by
  cases a with
  | none => exact .inl rfl
  | some j =>
    refine .inr fun e => ?_
    have := h1 j rfl
    have := h2 j e.symm
    omega
set_option maxRecDepth 100000 in
set_option maxHeartbeats 16000000 in
theorem pathsOfI_of (t : List Nd) (hT : treeB t = true) (W0 : World) (vt : Value) (hR : TreeR W0 vt t) : ∀ (d m : Nat) (ps l : List (List UInt8)) (vo vp : Value) (w : World), Below W0.heap.size W0 w → m < t.length → ps.length + d = 7 → (∀ x ∈ ps, x.length ≤ 1048576) →
    OwnG EL 9 W0.heap.size w vo l → OwnG EL 9 W0.heap.size w vp ps → Sep vp.ownBlock vo.ownBlock → l.length + (pathsG t d (m : Int) ps).length ≤ 1000000 →
    Calls Tryd.prog 42 #[vt, vo, vp, .int .i64 (m : Int)] w fun e w' => ∃ v', e = .returned v' ∧ Added 9 W0.heap.size w vo (l ++ pathsG t d (m : Int) ps) v' w' := by
  intro d
  induction d with
  | zero =>
    intro m ps l vo vp w hB hm hd hsz ho hp hsep hL
    obtain ⟨Ap, cpp, rfl⟩ := ownG_shape hp
    obtain ⟨Ao, cpo, rfl⟩ := ownG_shape ho
    obtain ⟨A, cap, rfl⟩ := hR.shape
    have h7 : (6 : Int) < (ps.length : Int) := by omega
    have hcp := (ownG_sl hp).caps
    have Ho := Lib.hid ho
    clear ho hp hsep hL hd
    go_enter Tryd.func42, Tryd.ntmps42
    go_wp2
    go_ret
    refine ⟨_, rfl, ?_, World.grownBy.refl _ _, .inl rfl⟩
    rw [show l ++ pathsG t 0 (m : Int) ps = l from List.append_nil l]
    exact Ho.out
  | succ d IH =>
    intro m ps l vo vp w hB hm hd hsz ho hp hsep hL
    have hj := fun w h => joinI_of vp ps w h hsz
    rw [show pathsG t (d + 1) (m : Int) ps = joinP ps :: (List.range (kth t m).ns.length).flatMap fun k => pathsG t d (nthK (kth t m) k) (ps ++ [nthN (kth t m) k]) from rfl] at hL ⊢
    have hl0 : l.length ≤ 1000000 := by omega
    obtain ⟨Ap, cpp, rfl⟩ := ownG_shape hp
    obtain ⟨Ao, cpo, rfl⟩ := ownG_shape ho
    obtain ⟨A, cap, rfl⟩ := hR.shape
    have h7 : ¬ (6 : Int) < (ps.length : Int) := by omega
    have hcp := (ownG_sl hp).caps
    have hco := (ownG_sl ho).caps
    have HO := Lib.hid ho
    have HP := Lib.hid hp
    have HJ := Lib.hid hj
    have HB := Lib.hid hB
    have HL := Lib.hid hL
    have HR := Lib.hid hR
    have Hsep := Lib.hid hsep
    have hzw := hB.size
    clear ho hp hj hB hL hR hsep
    go_enter Tryd.func42, Tryd.ntmps42
    go_wp2_with fail
    refine (HJ.out _ (sls_of (ownG_sl HP.out))).mono ?_
    rintro e w1 ⟨rfl, b1⟩
    have hz1 := b1.size
    have HO1 := Lib.hid (ownG_below HO.out b1)
    have HP1 := Lib.hid (ownG_below HP.out b1)
    have B1 := Lib.hid b1
    clear b1
    go_wp2_with (at_builtin; refine wpList_appG fitEL _ rfl (.tmp 15) (.tmp 18) rfl W0.heap.size (.slice Ao l.length cpo) l rfl ?cO _ [joinP ps] rfl ?cS ?cL ?cB ?_)
    case cO => exact ownG_alloc HO1.out _
    case cS => exact slG_one (by simp) (by
      intro j u hu
      rcases j with _ | j <;> simp [EL] at hu
      subst hu
      go_simp)
    case cL => first | omega | (simp; omega)
    try (case cB => first | omega | (simp; done) | (simp; omega))
    intro v2 w2 ⟨o2, g2, a2⟩ hb2
    have hA2 : Added 9 W0.heap.size w (.slice Ao l.length cpo) (l ++ [joinP ps]) v2 w2 := by
      refine ⟨o2, grown_step (grown_below B1.out _) (grown_step (World.grownBy_alloc _ _ _) g2 (.inl rfl)) (.inl rfl), ?_⟩
      rcases a2 with e | e
      · exact .inl e
      · exact .inr ⟨_, e, by simp; omega⟩
    have HA2 := Lib.hid hA2
    obtain ⟨A2, c2, e2⟩ := ownG_shape o2
    rw [show (l ++ [joinP ps]).length = l.length + 1 by simp] at e2
    subst e2
    have hB2 : Below W0.heap.size W0 w2 := Below.grown HB.out hA2.2.1 hzw (fun j hj => (ownG_block HO.out j hj).1)
    obtain ⟨bt, ot, nA, nC, kA, kC, rfl, hbt, hS, _, _, _, _, _, s5, s6⟩ := HR.out.at_ (kth_at hm)
    have s5' := (hB2.cell (p := ⟨bt, ot + m * 7 + 5, none⟩) hbt).trans s5
    have hm' : (m : Int) < (t.length : Int) := by omega
    have hns := hS.ns.caps
    have HS := Lib.hid hS
    have Hks := Lib.hid (head_ks (tree_node hT hm))
    have hkd := Lib.hid (fun j hj => kid_down hT hm (j := j) hj)
    have hnm := Lib.hid hS.nz
    have HBl := Lib.hid hB2
    clear o2 g2 a2 hb2 hA2 hS hB2
    go_wp2
    go_loopw [1, 26] (fun o i wr => ∃ k : Nat, k ≤ (kth t m).ns.length ∧ i = .int .i64 k ∧ Added 9 W0.heap.size w (.slice Ao l.length cpo) (l ++ joinP ps :: (List.range k).flatMap fun k => pathsG t d (nthK (kth t m) k) (ps ++ [nthN (kth t m) k])) o wr) (fun _ i _ => (kth t m).ns.length - (intOf i).toNat)
    case atStart => exact ⟨0, Nat.zero_le _, rfl, HA2.out⟩
    case round =>
      obtain ⟨k, hk, rfl, hAd⟩ := hrel
      have HAd := Lib.hid hAd
      have hBr : Below W0.heap.size W0 wr := Below.grown HB.out hAd.2.1 hzw (fun j hj => (ownG_block HO.out j hj).1)
      have HBr := Lib.hid hBr
      have HPr := Lib.hid (ownG_kept HP.out hAd.2.1 Hsep.out)
      have hzr := hBr.size
      by_cases hlt : k < (kth t m).ns.length
      · have hlk : k < (kth t m).ks.length := by have := Hks.out; omega
        obtain ⟨bn, on, rfl, hbn0, c1⟩ := HS.out.ns.at_ (nthN_at hlt)
        obtain ⟨bk, ok, rfl, hbk0, c2'⟩ := HS.out.ks.at_ (nthK_at hlk)
        have d1 : W0.cell? ⟨bn, on + k, none⟩ = some (.string (mk (nthN (kth t m) k))) := by have := c1 0 _ rfl; simpa [EL] using this
        have d2 : W0.cell? ⟨bk, ok + k, none⟩ = some (.int .i64 (nthK (kth t m) k)) := by have := c2' 0 _ rfl; simpa [EI] using this
        obtain ⟨z1, z2, _⟩ := hkd.out k hlk
        obtain ⟨m', hm2⟩ : ∃ m' : Nat, nthK (kth t m) k = (m' : Int) := ⟨(nthK (kth t m) k).toNat, by omega⟩
        have hmt : m' < t.length := by omega
        have hnml : (nthN (kth t m) k).length ≤ 1048576 := hnm.out _ (List.mem_of_getElem? (nthN_at hlt))
        have hps2 : ∀ y ∈ ps ++ [nthN (kth t m) k], y.length ≤ 1048576 := fun y hy => by
          rcases List.mem_append.1 hy with h | h
          · exact hsz y h
          · rw [List.mem_singleton.1 h]; exact hnml
        obtain ⟨L, hLe⟩ : ∃ L, L = l ++ joinP ps :: (List.range k).flatMap fun k => pathsG t d (nthK (kth t m) k) (ps ++ [nthN (kth t m) k]) := ⟨_, rfl⟩
        obtain ⟨M, hM⟩ : ∃ M, M = pathsG t d (m' : Int) (ps ++ [nthN (kth t m) k]) := ⟨_, rfl⟩
        have hsucc : (l ++ joinP ps :: (List.range (k + 1)).flatMap fun k => pathsG t d (nthK (kth t m) k) (ps ++ [nthN (kth t m) k])) = L ++ M := by
          rw [flat_succ, hLe, hM, ← hm2]; simp
        have hlen : L.length + M.length ≤ 1000000 := by
          have h1 := flat_part (f := fun k => pathsG t d (nthK (kth t m) k) (ps ++ [nthN (kth t m) k])) hlt
          have h2 := HL.out
          rw [hLe, hM, ← hm2]
          simp only [List.length_append, List.length_cons] at h2 ⊢
          omega
        have hIH := fun vo' vp' w' h1 h2 h3 h4 => IH m' (ps ++ [nthN (kth t m) k]) L vo' vp' w' h1 hmt (by rw [List.length_append, List.length_singleton]; omega) hps2 h2 h3 h4 (by rw [← hM]; exact hlen)
        rw [← hM] at hIH
        have HI := Lib.hid hIH
        rw [← hLe] at hAd
        obtain ⟨Ao', co', rfl⟩ := ownG_shape hAd.1
        have HAd' := Lib.hid hAd
        have Hob := Lib.hid (fun j hj => ownG_block hAd.1 j hj)
        have HSu := Lib.hid hsucc
        obtain ⟨nm, hnmE⟩ : ∃ nm, nm = nthN (kth t m) k := ⟨_, rfl⟩
        rw [← hnmE] at d1 HI
        rw [hm2] at d2
        have hzr0 := HBr.out.size
        have s6r := (HBr.out.cell (p := ⟨bt, ot + m * 7 + 6, none⟩) hbt).trans s6
        have skr := (HBr.out.cell (p := ⟨bk, ok + k, none⟩) hbk0).trans d2
        have snr := (HBr.out.cell (p := ⟨bn, on + k, none⟩) hbn0).trans d1
        have hbt' : bt < wr.heap.size := by omega
        have hbk' : bk < wr.heap.size := by omega
        have hbn' : bn < wr.heap.size := by omega
        have hkk : (k : Int) < ((kth t m).ns.length : Int) := by omega
        have hkk2 : (k : Int) < ((kth t m).ks.length : Int) := by omega
        have hps6 : ps.length ≤ 6 := by omega
        have HPs := Lib.hid (ownG_sl HPr.out)
        clear hAd HAd hBr hLe hM hsucc hlen hps2 hIH hnmE hm2 hnml c1 c2' d1 d2 z1 z2
        go_wp2_with fail
        go_region_held3 (fun w' => w'.cell? ⟨bt, ot + m * 7 + 6, none⟩ = some (.slice (some ⟨bk, ok, none⟩) (kth t m).ks.length kC) ∧ w'.cell? ⟨bk, ok + k, none⟩ = some (.int .i64 (m' : Int))) (first | assumption | (go_simp; done) | fail) (first | (refine step_appG fitEL _ rfl (.tmp 34) (.tmp 36) rfl wr.heap.size _ ps rfl ?_ _ [nm] rfl ?_ ?_ ?_ ?_; (focus (first | exact o1 | exact ownG_alloc o1 _)); (focus (refine slG_one ?_ ?_; (focus (first | omega | (simp; done) | (simp; omega))); (focus (intro j u hu; rcases j with _ | j <;> simp [EL] at hu; subst hu; first | (go_simp; done) | exact (hb1.cell (p := ⟨wr.heap.size, 0, none⟩) (by simp)).trans (by go_simp))))); (focus (simp; omega)); (focus (first | omega | (simp; done) | (simp; omega))); rintro v2 w2 ⟨o2, gr2, a2⟩ hb2; have t2 : Below wr.heap.size wr w2 := Below.trans (by first | exact t1 | exact Below.alloc t1 t1.size _) hb2; have s6_2 := (t2.cell (p := ⟨bt, ot + m * 7 + 6, none⟩) hbt').trans s6r; have sk_2 := (t2.cell (p := ⟨bk, ok + k, none⟩) hbk').trans skr; have zz2 := t2.size) | (go_at_call 77; refine (cloneL_of _ ps _ ?_ ?_).mono ?_; (focus (refine HPs.out.below ?_; ((repeat (first | exact Below.refl _ _ | exact Hbl.out | refine Below.ext ?_ (by first | omega | (simp; omega) | simp) | refine Below.setCell ?_ (by first | omega | (simp; omega) | simp) _ | refine Below.alloc ?_ (by first | omega | (simp; omega) | simp) _ | refine Below.drew ?_ | refine below_drewN ?_ _ | refine Below.step (by assumption) (by first | omega | (simp; omega) | simp) ?_))))); (focus omega); rintro e1 w1 ⟨v1, rfl, oc, hb1⟩; have t1 : Below wr.heap.size wr w1 := (by first | exact hb1 | exact Below.step hb1 (by first | (simp; done) | omega) (by (repeat (first | exact Below.refl _ _ | exact Hbl.out | refine Below.ext ?_ (by first | omega | (simp; omega) | simp) | refine Below.setCell ?_ (by first | omega | (simp; omega) | simp) _ | refine Below.alloc ?_ (by first | omega | (simp; omega) | simp) _ | refine Below.drew ?_ | refine below_drewN ?_ _ | refine Below.step (by assumption) (by first | omega | (simp; omega) | simp) ?_)))); have o1 : OwnG EL 9 wr.heap.size w1 v1 ps := (by first | exact oc | exact ownG_mono oc (by first | (simp; done) | omega)); have s6_1 := (t1.cell (p := ⟨bt, ot + m * 7 + 6, none⟩) hbt').trans s6r; have sk_1 := (t1.cell (p := ⟨bk, ok + k, none⟩) hbk').trans skr; have zz1 := t1.size; have hzz1 := hb1.size; (try simp at hzz1)) | (go_at_call 42; refine (HI.out _ _ _ ?_ ?_ ?_ ?_).mono ?_; (focus (exact Below.trans HBr.out (Below.mono t2 hzr0))); (focus (exact ownG_below HAd'.out.1 t2)); (focus (exact ownG_mono o2 hzr0)); (focus (exact sep_low (N := wr.heap.size) (fun j hj => (ownG_block o2 j hj).1) (fun j hj => (Hob.out j hj).2))); rintro e3 w3 ⟨v3, rfl, hA3⟩; have hA4 := HAd'.out.step t2 hA3; have s6_3 := (hA3.2.1.cell_far ⟨bt, ot + m * 7 + 6, none⟩ (Nat.lt_of_lt_of_le hbt' zz2) (fun e => by have := (Hob.out bt e.symm).1; omega)).trans s6_2; have sk_3 := (hA3.2.1.cell_far ⟨bk, ok + k, none⟩ (Nat.lt_of_lt_of_le hbk' zz2) (fun e => by have := (Hob.out bk e.symm).1; omega)).trans sk_2))
        all_goals
          rw [← HSu.out] at hA4
          have HA4 := Lib.hid hA4
          clear hA3 hA4 o2 o1 oc gr2 a2
          go_wp2_with fail
          go_roundw
          case rel => exact ⟨k + 1, hlt, by go_num, HA4.out⟩
          case measure => simp [intOf]; omega
      · obtain rfl : k = (kth t m).ns.length := by omega
        clear hAd hBr
        go_wp2
        go_ret
        exact ⟨_, rfl, HAd.out⟩
set_option maxRecDepth 100000 in
set_option maxHeartbeats 4000000 in
theorem pathsI_of (v : Value) (t : List Nd) (w : World) (h : TreeR w v t) (ht : t.length ≤ 1000) (hk : (kidsOf t).length ≤ 16) :
    Calls Tryd.prog 12 #[v] w fun e w' => ∃ v', e = .returned v' ∧ OwnG EL 9 w.heap.size w' v' (pathsOfF t) ∧ Below w.heap.size w w' := by
  have H := Lib.hid h
  have HT := Lib.hid (fun w h => treeI_of v t w h ht (by omega))
  have hR := h
  obtain ⟨A, cap, rfl⟩ := h.shape
  unfold pathsOfF
  cases hb : treeB t
  · rw [hb] at HT
    rw [if_neg (by simp)]
    clear hR h hb
    go_enter Tryd.func12, Tryd.ntmps12
    go_wp2_with fail
    refine (HT.out _ H.out).mono ?_
    rintro e w1 ⟨rfl, b1⟩
    have B1 := Lib.hid b1
    clear b1
    go_wp2
    go_ret
    exact ⟨_, rfl, ownG_none _ _, B1.out⟩
  · rw [if_pos rfl, ← pathsG_eq]
    have hpos : 0 < t.length := by have := inB_iffL.1 (tree_all hb).1; omega
    have hP := fun w1 b1 => pathsOfI_of t hb w _ hR 7 0 [] [] (.slice none 0 0) (.slice none 0 0) w1 b1 hpos rfl (fun x hx => by cases hx) (ownG_none _ _) (ownG_none _ _) (.inl rfl) (by
      rw [pathsG_eq]
      have h1 := paths_len hb 6 0 [] hpos
      have h2 : (2 : Nat) ^ (kidsOf (t.drop 0)).length ≤ 2 ^ 16 := Nat.pow_le_pow_right (by decide) (by rw [List.drop_zero]; exact hk)
      simp only [List.length_nil]
      have h3 : (2 : Nat) ^ 16 = 65536 := by decide
      omega)
    have HP := Lib.hid hP
    rw [hb] at HT
    clear hR h hb hP
    go_enter Tryd.func12, Tryd.ntmps12
    go_wp2_with fail
    refine (HT.out _ H.out).mono ?_
    rintro e w1 ⟨rfl, b1⟩
    have B1 := Lib.hid b1
    clear b1
    go_wp2_with fail
    refine (HP.out _ B1.out).mono ?_
    rintro e w2 ⟨v2, rfl, hA⟩
    have HA := Lib.hid hA
    have HB2 := Lib.hid (Below.grown B1.out hA.2.1 B1.out.size (fun j hj => by cases hj))
    clear hA
    go_wp2
    go_ret
    exact ⟨_, rfl, HA.out.1, HB2.out⟩
end Go.Proofs.YthfneaaenlgegaaDoor
