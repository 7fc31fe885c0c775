/- The reference's l9Clean. -/
import Derived.Test.YtkennmpbmbacpaaGreatDoorCleanP
import Derived.Test.YtkennmpbmbacpaaGreatDoorTakeS
import Derived.StillTailTactics
set_option linter.unusedSimpArgs false
set_option linter.unusedVariables false
set_option linter.unusedSectionVars false
namespace Go.Proofs.YtkennmpbmbacpaaGreatDoor
open Go.RowKit

def numL (n p k : Nat) : List Int := (List.range n).map fun i => if i < k then ren p (i : Int) else 0
theorem numL_len (n p k : Nat) : (numL n p k).length = n := by simp [numL]
theorem numL_get {n p k i : Nat} (h : i < n) : (numL n p k)[i]? = some (if i < k then ren p (i : Int) else 0) := by simp [numL, h]
theorem numL_zero (n p : Nat) : numL n p 0 = cntL n [] := by simp [numL, cntL]
theorem numL_set {n p k : Nat} (h : k < n) : (numL n p k).set k (ren p (k : Int)) = numL n p (k + 1) := by
  apply List.ext_getElem?
  intro i
  rw [List.getElem?_set]
  by_cases hi : i < n
  · rw [numL_get hi, numL_get hi, numL_len]
    by_cases e : k = i
    · subst e
      rw [if_pos rfl, if_pos h, if_pos (Nat.lt_succ_self _)]
    · rw [if_neg e]
      by_cases h2 : i < k
      · rw [if_pos h2, if_pos (by omega)]
      · rw [if_neg h2, if_neg (by omega)]
  · rw [if_neg (by omega), List.getElem?_eq_none (by rw [numL_len]; omega), List.getElem?_eq_none (by rw [numL_len]; omega)]
theorem LN_count {α : Type} {l : List α} {p k : Nat} (h : k ≤ l.length) : (((LN l p k).length : Nat) : Int) = ren p (k : Int) := by
  unfold LN ren
  by_cases hk : k ≤ p
  · rw [if_pos hk, if_neg (by omega), List.length_take]; omega
  · rw [if_neg hk, if_pos (by omega), List.length_eraseIdx, List.length_take, if_pos (by omega)]; omega
theorem LN_all {α : Type} {l : List α} {p : Nat} : LN l p l.length = l.eraseIdx p := by
  by_cases h : p < l.length
  · exact LN_end h
  · unfold LN
    rw [if_pos (by omega), List.take_length, List.eraseIdx_of_length_le (by omega)]
theorem TreeC.erase2 {B : Nat} {w w' : World} {v v' : Value} {i : Nat} {cs : List Cn} {t : List Nd} (h : TreeC B w v cs t) (ho : OwnG EC 44 B w' v' (cs.eraseIdx i)) (hk : ∀ c x, NdO B w c x → NdO B w' c x) : TreeC B w' v' (cs.eraseIdx i) (t.eraseIdx i) := by
  refine ⟨by rw [List.length_eraseIdx, List.length_eraseIdx, h.len], ho, fun j c x hc hx => ?_, fun j k c d hc hd hjk => ?_⟩
  · rw [List.getElem?_eraseIdx] at hc hx
    by_cases hj : j < i
    · rw [if_pos hj] at hc hx
      exact hk _ _ (h.nds j c x hc hx)
    · rw [if_neg hj] at hc hx
      exact hk _ _ (h.nds (j + 1) c x hc hx)
  · rw [List.getElem?_eraseIdx] at hc hd
    by_cases hj : j < i
    · rw [if_pos hj] at hc
      by_cases hk : k < i
      · rw [if_pos hk] at hd
        exact h.sep j k c d hc hd hjk
      · rw [if_neg hk] at hd
        exact h.sep j (k + 1) c d hc hd (by omega)
    · rw [if_neg hj] at hc
      by_cases hk : k < i
      · rw [if_pos hk] at hd
        exact h.sep (j + 1) k c d hc hd (by omega)
      · rw [if_neg hk] at hd
        exact h.sep (j + 1) (k + 1) c d hc hd (by omega)
set_option maxRecDepth 100000 in
set_option maxHeartbeats 2000000 in
theorem cleanS_of (g n cap p B : Nat) (cs : List Cn) (T : List Nd) (w : World) (h : TreeC B w (.slice (some ⟨g, 0, none⟩) n cap) cs T) (hnT : T.length = n) (hn16 : n ≤ 16) (hlk : (linksF T).length = n ∧ ∀ i, i < n → (linksF T)[i]? = some (lnk T i)) (hp : ∀ i, i < n → ((i = 0 ∨ 0 < lnk T i) ↔ i ≠ p))
    (hR : ∀ i j, i < n → j < (kth T i).ks.length → 0 ≤ nthK (kth T i) j ∧ nthK (kth T i) j < (n : Int)) (hkz : (kidsOf T).length ≤ 1000000) (hB : B ≤ w.heap.size) :
    Calls Tryz.prog 47 #[.slice (some ⟨g, 0, none⟩) n cap] w fun e w' => ∃ v', e = .returned v' ∧ TreeO B w' v' (cleanT T p) ∧ Below B w w' := by
  obtain ⟨i0, hi, hz0, hz1, hz2⟩ := info_partsI infoInt
  have HLI := Lib.hid (linksS_of (.slice (some ⟨g, 0, none⟩) n cap) T w (TreeO.r ⟨_, h⟩) (by omega) hkz)
  have HT0 := Lib.hid h
  have HnT := Lib.hid hnT
  have HnC := Lib.hid (show cs.length = n by rw [h.len]; exact hnT)
  have Hlk := Lib.hid hlk
  have HR := Lib.hid hR
  have Hp := Lib.hid hp
  clear h hnT hlk hR hkz hp
  go_enter Tryz.func47, Tryz.ntmps47
  go_wp2_with fail
  refine HLI.out.mono ?_
  rintro e w1 ⟨v1, rfl, o1, b1⟩
  obtain ⟨A1, c1, rfl⟩ := ownG_shape o1
  have hlen1 : (linksF T).length = n := Hlk.out.1
  rw [hlen1]
  have Hln := Lib.hid (fun (i : Nat) (hi : i < n) => (ownG_sl o1).at_ (Hlk.out.2 i hi))
  have B1 := Lib.hid b1
  have hz01 := b1.size
  clear o1 b1 hlen1 HLI
  go_wp2_with (refine wpList_make_full _ rfl _ _ 35 rfl w1.heap.size 3 i0 (.int .i64 0) 1 Tryz.underlying35 hi hz0 hz1 _ _ _ _ n rfl rfl rfl rfl (by rw [hz2]; omega) (by unfold maxLen; omega) (Nat.le_refl _) ?_)
  intro w2 hown hg2
  have hbl : Below w1.heap.size w1 w2 := (Below.refl _ _).grown hg2 (Nat.le_refl _) (by intro k hk; cases hk)
  have hO : OwnG EI 3 w1.heap.size w2 (.slice (some ⟨w1.heap.size, 0, none⟩) n n) (numL n p 0) := by
    rw [numL_zero]
    unfold OwnG
    rw [cntL_len, ← made_ints]
    exact hown
  have HO := Lib.hid hO
  have Hbl := Lib.hid hbl
  have hz12 := (ownG_block hO w1.heap.size rfl).2
  clear hown hg2 hO hbl hi hz0 hz1 hz2
  go_wp2
  go_loopw [5, 6] (fun o i wr => ∃ k : Nat, k ≤ n ∧ i = .int .i64 k ∧ OwnG EC 44 w2.heap.size wr o (LN cs p k) ∧ OwnG EI 3 w1.heap.size wr (.slice (some ⟨w1.heap.size, 0, none⟩) n n) (numL n p k) ∧ Below w1.heap.size w1 wr ∧ w2.heap.size ≤ wr.heap.size) (fun _ i _ => n - (intOf i).toNat)
  case atStart =>
    refine ⟨0, Nat.zero_le _, rfl, ?_, ownG_alloc HO.out _, Below.alloc Hbl.out (by omega) _, by simp⟩
    rw [show LN cs p 0 = [] by simp [LN]]
    exact ownG_empty _ rfl (Nat.le_refl _)
  case round =>
    obtain ⟨k, hk, rfl, ho, hnum, hB1, hz2r⟩ := hrel
    obtain ⟨Ao, co, rfl⟩ := ownG_shape ho
    have Ho := Lib.hid ho
    have Hnum := Lib.hid hnum
    have HB1 := Lib.hid hB1
    by_cases hlt : k < n
    · have hlt' : (k : Int) < (n : Int) := by omega
      have hkc : k < cs.length := by rw [HnC.out]; exact hlt
      have zk : IntKind.i64.wrap ((k : Int) + 1) = (k : Int) + 1 := IntWalk.i64_in _ (by omega)
      have hcnt := LN_count (l := cs) (p := p) (Nat.le_of_lt hkc)
      have hLle := LN_le cs p k
      obtain ⟨gg, og, egg, _, hcell⟩ := (ownG_sl hnum).at_ (numL_get (p := p) (k := k) hlt)
      cases egg
      rw [if_neg (Nat.lt_irrefl k)] at hcell
      have c3 : wr.cell? ⟨w1.heap.size, k, none⟩ = some (.int .i64 0) := by have := hcell 0 _ rfl; simpa [EI] using this
      have f3 : wr.frozen? ⟨w1.heap.size, k, none⟩ = false := by
        have hh := hnum
        unfold OwnG at hh
        rw [numL_len] at hh
        exact hh.frozenAt _
      obtain ⟨g2, eg2, -, -, -, hst⟩ := ownG_store (E := EI) (j := 0) (y := ren p (k : Int)) (u := .int .i64 (ren p (k : Int))) hnum (numL_get hlt) (show 0 < EI.z from by decide) rfl
      cases eg2
      rw [numL_set hlt, show k * EI.z + 0 = k from by show k * 1 + 0 = k; omega] at hst
      have hok : OwnG EC 44 w2.heap.size (wr.setCell ⟨w1.heap.size, k, none⟩ (.int .i64 (ren p (k : Int)))) (.slice Ao (LN cs p k).length co) (LN cs p k) := ownG_kept ho (Lib.grownBy_setB (World.grownBy.refl _ (some w1.heap.size)) _ _) (ownG_type ho hnum (by decide))
      have hB1s := Below.setCell (p := ⟨w1.heap.size, k, none⟩) hB1 (Nat.le_refl w1.heap.size) (.int .i64 (ren p (k : Int)))
      rw [← hcnt] at hst hok hB1s
      have Hst := Lib.hid hst
      have Hok := Lib.hid hok
      have Hcnt := Lib.hid hcnt
      have HB1s := Lib.hid hB1s
      obtain ⟨b2, o2, rfl, hb2, q2⟩ := Hln.out k hlt
      have x2 : wr.cell? ⟨b2, o2 + k, none⟩ = some (.int .i64 (lnk T k)) := by have := q2 0 _ rfl; rw [show EI.z = 1 from rfl, Nat.mul_one, Nat.add_zero] at this; exact (hB1.cell (p := ⟨b2, o2 + k, none⟩) hb2).trans this
      have hpk := Hp.out k hlt
      obtain ⟨c, hc⟩ : ∃ c, c = cs[k] := ⟨_, rfl⟩
      have hcs : cs[k]? = some c := by rw [hc]; exact List.getElem?_eq_getElem hkc
      have hTr := HT0.out.row
      obtain ⟨g3, o3, eg3, hg3, hat⟩ := (ownG_sl hTr).at_ hcs
      cases eg3
      have hg31 : g < w1.heap.size := Nat.lt_of_lt_of_le hg3 hz01
      have yc : ∀ j u, (EC.put c)[j]? = some u → wr.cell? ⟨g, k * 7 + j, none⟩ = some u := fun j u hu => by
        have := hat j u hu
        rw [Nat.zero_add] at this
        exact (hB1.cell (p := ⟨g, k * 7 + j, none⟩) hg31).trans ((B1.out.cell (p := ⟨g, k * 7 + j, none⟩) hg3).trans this)
      have y0 : wr.cell? ⟨g, k * 7, none⟩ = some (.bool c.fo) := yc 0 _ rfl
      have y1 : wr.cell? ⟨g, k * 7 + 1, none⟩ = some (.int .i64 c.ow) := yc 1 _ rfl
      have y2 : wr.cell? ⟨g, k * 7 + 2, none⟩ = some (.int .i64 c.gr) := yc 2 _ rfl
      have y3 : wr.cell? ⟨g, k * 7 + 3, none⟩ = some (.int .i64 c.mo) := yc 3 _ rfl
      have y4 : wr.cell? ⟨g, k * 7 + 4, none⟩ = some (.string c.tx) := yc 4 _ rfl
      have y5 : wr.cell? ⟨g, k * 7 + 5, none⟩ = some (.slice c.nA c.nL c.nC) := yc 5 _ rfl
      have y6 : wr.cell? ⟨g, k * 7 + 6, none⟩ = some (.slice c.kA c.kL c.kC) := yc 6 _ rfl
      have Hc := Lib.hid hcs
      have hLN := Lib.hid (fun (hne : k ≠ p) => LN_next (l := cs) hne hcs)
      clear hst hok hcnt hB1s ho hnum hB1 hcell q2 hc hcs hTr hat yc Ho Hnum HB1 HO Hbl
      obtain ⟨N, hN⟩ : ∃ N, N = (LN cs p k).length := ⟨_, rfl⟩
      rw [← hN] at Hst Hok HB1s Hcnt ⊢
      have hN16 : N ≤ 16 := by have := HnC.out; omega
      have hcase : (k = 0 ∧ k ≠ p) ∨ (¬ k = 0 ∧ 0 < lnk T k ∧ k ≠ p) ∨ (¬ k = 0 ∧ ¬ 0 < lnk T k ∧ k = p) := by
        by_cases h0 : k = 0
        · exact .inl ⟨h0, hpk.1 (.inl h0)⟩
        · by_cases h1 : 0 < lnk T k
          · exact .inr (.inl ⟨h0, h1, hpk.1 (.inr h1)⟩)
          · refine .inr (.inr ⟨h0, h1, Decidable.not_not.1 fun hne => ?_⟩)
            rcases hpk.2 hne with h | h
            · exact h0 h
            · exact h1 h
      have HN := Lib.hid hN
      have HLle := Lib.hid hLle
      clear hpk hN hLle
      rcases hcase with ⟨h0, hne⟩ | ⟨h0, h1, hne⟩ | ⟨h0, h1, hne⟩
      · have hLN2 := Lib.hid (hLN.out hne)
        have h0i : ((k : Int) == 0) = true := by simp [h0]
        clear hLN hne h0
        go_wp2_with (at_builtin; refine wpList_appG fitEC _ rfl (.tmp 35) (.tmp 40) rfl w2.heap.size (.slice Ao N co) (LN cs p k) rfl ?cO _ [c] rfl ?cS ?cL ?cB ?_)
        case cO => exact ownG_alloc Hok.out _
        case cS => exact slG_one (by simp) (by intro j u hu; rcases j with _ | _ | _ | _ | _ | _ | _ | j <;> simp [EC, Cn.cells] at hu <;> subst hu <;> first | (go_simp; done) | (go_simp; rfl))
        case cL => have := HN.out; simp; omega
        case cB => simp; omega
        intro v9 w9 ha9 hb9
        have hn9 : OwnG EI 3 w1.heap.size w9 (.slice (some ⟨w1.heap.size, 0, none⟩) n n) (numL n p (k + 1)) := by
          refine ownG_kept ?_ ha9.2.1 (ownG_type Hst.out Hok.out (by decide))
          exact ownG_alloc Hst.out _
        have hB9 := Below.trans (Below.alloc HB1s.out (by simp; omega) _) (hb9.mono (Nat.le_of_lt hz12))
        have hs9 := hb9.size
        simp only [World.size_alloc, size_setCell] at hs9
        have ho9 := ha9.1
        rw [← hLN2.out] at ho9
        have Ho9 := Lib.hid ho9
        have Hn9 := Lib.hid hn9
        have HB9 := Lib.hid hB9
        clear ha9 hb9 hn9 hB9 ho9 y0 y1 y2 y3 y4 y5 y6 x2 c3 f3 Hst Hok HB1s
        go_wp2
        go_roundw
        case rel => exact ⟨k + 1, hlt, by go_num, Ho9.out, Hn9.out, HB9.out, by omega⟩
        case measure => simp [intOf]; omega
      · have hLN2 := Lib.hid (hLN.out hne)
        have h0i : ((k : Int) == 0) = false := by simp [h0]
        have h1i : decide (0 < lnk T k) = true := by simpa using h1
        clear hLN hne h0
        go_wp2_with (at_builtin; refine wpList_appG fitEC _ rfl (.tmp 35) (.tmp 40) rfl w2.heap.size (.slice Ao N co) (LN cs p k) rfl ?cO _ [c] rfl ?cS ?cL ?cB ?_)
        case cO => exact ownG_alloc Hok.out _
        case cS => exact slG_one (by simp) (by intro j u hu; rcases j with _ | _ | _ | _ | _ | _ | _ | j <;> simp [EC, Cn.cells] at hu <;> subst hu <;> first | (go_simp; done) | (go_simp; rfl))
        case cL => have := HN.out; simp; omega
        case cB => simp; omega
        intro v9 w9 ha9 hb9
        have hn9 : OwnG EI 3 w1.heap.size w9 (.slice (some ⟨w1.heap.size, 0, none⟩) n n) (numL n p (k + 1)) := by
          refine ownG_kept ?_ ha9.2.1 (ownG_type Hst.out Hok.out (by decide))
          exact ownG_alloc Hst.out _
        have hB9 := Below.trans (Below.alloc HB1s.out (by simp; omega) _) (hb9.mono (Nat.le_of_lt hz12))
        have hs9 := hb9.size
        simp only [World.size_alloc, size_setCell] at hs9
        have ho9 := ha9.1
        rw [← hLN2.out] at ho9
        have Ho9 := Lib.hid ho9
        have Hn9 := Lib.hid hn9
        have HB9 := Lib.hid hB9
        clear ha9 hb9 hn9 hB9 ho9 y0 y1 y2 y3 y4 y5 y6 x2 c3 f3 Hst Hok HB1s
        go_wp2
        go_roundw
        case rel => exact ⟨k + 1, hlt, by go_num, Ho9.out, Hn9.out, HB9.out, by omega⟩
        case measure => simp [intOf]; omega
      · have hLN2 := Lib.hid (show LN cs p (k + 1) = LN cs p k by rw [hne]; exact LN_skip (by rw [← hne]; exact hkc))
        have h0i : ((k : Int) == 0) = false := by simp [h0]
        have h1i : decide (0 < lnk T k) = false := by simpa using h1
        clear hLN hne h0 y0 y1 y2 y3 y4 y5 y6
        rw [HN.out] at Hok
        go_wp2
        go_roundw
        case rel => exact ⟨k + 1, hlt, by go_num, by rw [hLN2.out, HN.out]; exact Hok.out, Hst.out, HB1s.out, by simp; omega⟩
        case measure => simp [intOf]; omega
    · have hkn : n = k := by omega
      subst hkn
      have hLN : LN cs p n = cs.eraseIdx p := by rw [← HnC.out]; exact LN_all
      rw [hLN] at Ho ⊢
      have hz1r := hB1.size
      have hTC := HT0.out.erase2 (ownG_mono Ho.out (B' := B) (by omega)) (fun c x hn => NdO.below (NdO.below hn B1.out) HB1.out)
      have hkB : ∀ (i : Nat) c, (cs.eraseIdx p)[i]? = some c → ∀ gk, (Value.slice c.kA c.kL c.kC).ownBlock = some gk → gk < w.heap.size := fun i c hc gk hg => by
        obtain ⟨j, hj, e⟩ := List.mem_iff_getElem.1 (List.mem_of_mem_eraseIdx (List.mem_of_getElem? hc))
        have hn := HT0.out.nds j c _ (by rw [← e]; exact List.getElem?_eq_getElem hj) (kth_at (by rw [← HT0.out.len]; exact hj))
        exact (ownG_block hn.ks gk hg).2
      have hR2 : ∀ i j, i < (T.eraseIdx p).length → j < (kth (T.eraseIdx p) i).ks.length → 0 ≤ nthK (kth (T.eraseIdx p) i) j ∧ nthK (kth (T.eraseIdx p) i) j < (n : Int) := fun i j hi hj => by
        obtain ⟨i', hi', e⟩ := List.mem_iff_getElem.1 (List.mem_of_mem_eraseIdx (List.mem_of_getElem? (kth_at hi)))
        have e2 : kth T i' = kth (T.eraseIdx p) i := by
          have := kth_at hi'
          rw [List.getElem?_eq_getElem hi'] at this
          injection this with this
          rw [← this, e]
        rw [← e2] at hj ⊢
        exact HR.out i' j (by rw [← HnT.out]; exact hi') hj
      have hnu : ∀ z : Nat, z < n → wr.cell? ⟨w1.heap.size, z, none⟩ = some (.int .i64 (ren p (z : Int))) := fun z hz => by
        obtain ⟨gg, og, egg, _, hcell⟩ := (ownG_sl hnum).at_ (numL_get (p := p) (k := n) hz)
        cases egg
        rw [if_pos hz] at hcell
        have := hcell 0 _ rfl
        simpa [EI] using this
      have hm : (cs.eraseIdx p).length = (T.eraseIdx p).length := hTC.len
      have hm16 : (T.eraseIdx p).length ≤ 16 := by have := HnT.out; have h2 := List.length_eraseIdx_le T p; omega
      rw [hm] at hTC ⊢
      have hcl : cleanT T p = (T.eraseIdx p).map (renN p) := rfl
      generalize T.eraseIdx p = E at hTC hR2 hm16 hcl
      generalize cs.eraseIdx p = cs9 at hTC hkB
      have hcap2 := (TreeO.r ⟨_, hTC⟩).caps
      have HTC := Lib.hid hTC
      have HkB := Lib.hid hkB
      have HR2 := Lib.hid hR2
      have Hnu := Lib.hid hnu
      have Hcl := Lib.hid hcl
      have hBw : Below B w wr := Below.trans (B1.out.mono hB) (HB1.out.mono (by omega))
      have HBw := Lib.hid hBw
      obtain ⟨m, hmE⟩ : ∃ m, m = E.length := ⟨_, rfl⟩
      rw [← hmE] at HTC hm16 hcap2 HR2 ⊢
      have HmE := Lib.hid hmE
      clear hLN hTC hkB hR2 hnu hcl hBw hm hmE Ho Hnum HB1 ho hnum hB1 HnT HnC HT0 HR Hlk Hp HO Hbl Hln
      have hz1r' : w1.heap.size < wr.heap.size := by omega
      obtain ⟨wA, rfl⟩ : ∃ wA, wA = wr := ⟨_, rfl⟩
      clear hz1r hz2r hk
      go_wp2
      go_loopw [7] (fun i wr => ∃ (j : Nat) (T' : List Nd), j ≤ m ∧ i = .int .i64 j ∧ RenTo E p j 0 T' ∧ TreeC B wr (.slice Ao m co) cs9 T' ∧ Below B w wr ∧ w1.heap.size < wr.heap.size ∧ (∀ z : Nat, z < n → wr.cell? ⟨w1.heap.size, z, none⟩ = some (.int .i64 (ren p (z : Int))))) (fun i _ => m - (intOf i).toNat)
      case atStart => exact ⟨0, E, Nat.zero_le _, rfl, RenTo.start E p, HTC.out, HBw.out, hz1r', Hnu.out⟩
      case round =>
        obtain ⟨j, T', hj, rfl, hRT, hT, hBB, hz1, hnu⟩ := hrel
        have HT := Lib.hid hT
        have HBB := Lib.hid hBB
        have HRT := Lib.hid hRT
        have HNU := Lib.hid hnu
        by_cases hlt : j < m
        · have hlt' : (j : Int) < (m : Int) := by omega
          have hjE : j < E.length := by rw [← HmE.out]; exact hlt
          have zj : IntKind.i64.wrap ((j : Int) + 1) = (j : Int) + 1 := IntWalk.i64_in _ (by omega)
          have hRj := HR2.out j
          obtain ⟨Lk, hLk⟩ : ∃ Lk, Lk = (kth E j).ks.length := ⟨_, rfl⟩
          rw [← hLk] at hRj
          have HLk := Lib.hid hLk
          have HRj := Lib.hid hRj
          clear hT hBB hRT hnu hRj hLk
          go_wp2
          go_loopw [8] (fun i wq => ∃ (q : Nat) (T' : List Nd), q ≤ Lk ∧ i = .int .i64 q ∧ RenTo E p j q T' ∧ TreeC B wq (.slice Ao m co) cs9 T' ∧ Below B w wq ∧ w1.heap.size < wq.heap.size ∧ (∀ z : Nat, z < n → wq.cell? ⟨w1.heap.size, z, none⟩ = some (.int .i64 (ren p (z : Int))))) (fun i _ => Lk - (intOf i).toNat)
          case atStart => exact ⟨0, T', Nat.zero_le _, rfl, HRT.out, HT.out, HBB.out, hz1, HNU.out⟩
          case round =>
            obtain ⟨q, T2, hq, rfl, hRT, hT, hBB, hz1, hnu⟩ := hrel
            have HT2 := Lib.hid hT
            have HBB2 := Lib.hid hBB
            have HRT2 := Lib.hid hRT
            have HNU2 := Lib.hid hnu
            have hjT : j < T2.length := by rw [hRT.len]; exact hjE
            obtain ⟨go, c, ego, hgoB, hgw, hcc, hnd, -, -, -, -, -, -, -, y6, -⟩ := hT.at_ hjT
            have hLT : (kth T2 j).ks.length = Lk := by rw [hRT.mid hjE, partN_len, HLk.out]
            rw [hLT] at y6
            have hcK := (ownG_sl hnd.ks).caps
            rw [hLT] at hcK
            subst ego
            by_cases hql : q < Lk
            · have hql' : (q : Int) < (Lk : Int) := by omega
              have hqE : q < (kth E j).ks.length := by rw [← HLk.out]; exact hql
              have hqT : q < (kth T2 j).ks.length := by rw [hLT]; exact hql
              obtain ⟨gk, ek, k1, k2, k3, k4, k5, k6, k7⟩ := hT.kidset (z := ren p (nthK (kth E j) q)) hjT hcc hqT
              have k8 := HkB.out j c hcc gk k6
              rw [hRT.mid hjE, partN_at hqE] at k3
              have hz := HRj.out q hlt hql
              have zq : IntKind.i64.wrap ((q : Int) + 1) = (q : Int) + 1 := IntWalk.i64_in _ (by omega)
              rw [ek] at y6
              have hst := Lib.hid (hRT.store hjE hqE)
              have HK7 := Lib.hid k7
              generalize nthK (kth E j) q = z at k3 hz HK7 hst
              generalize T2.set j _ = T3 at hst HK7
              have c3 := hnu z.toNat (by omega)
              have hz0 : 0 ≤ z := hz.1
              have hzn : z < (n : Int) := hz.2
              rw [show ((z.toNat : Nat) : Int) = z by omega] at c3
              have hnu2 : ∀ y : Nat, y < n → (wr.setCell ⟨gk, q, none⟩ (.int .i64 (ren p z))).cell? ⟨w1.heap.size, y, none⟩ = some (.int .i64 (ren p (y : Int))) := fun y hy => (World.cell?_setCell_other _ _ _ _ (fun e => by injection e with e1; omega)).trans (hnu y hy)
              have Hnu2 := Lib.hid hnu2
              clear hT hBB hRT hnu hnu2 k5 k6 k7 hLT hz hnd
              go_wp2_with fail
              go_still_tail 18, (by kernel_rfl)
              go_wp2
              go_roundw
              case rel => exact ⟨q + 1, T3, hql, by go_num, hst.out, HK7.out.below (Below.drew (Below.refl _ _)), Below.drew (Below.setCell HBB2.out k1 _), by simp; omega, Hnu2.out⟩
              case measure => simp [intOf]; omega
            · have hqL : Lk = q := by omega
              subst hqL
              clear hT hBB hRT hnu hLT hnd
              go_wp2
              go_roundw
              case rel => exact ⟨j + 1, T2, hlt, by go_num, HRT2.out.next hjE HLk.out, HT2.out, HBB2.out, hz1, HNU2.out⟩
              case measure => simp [intOf]; omega
        · have hjm : m = j := by omega
          subst hjm
          clear hT hBB hRT hnu
          go_wp2
          go_ret
          exact ⟨_, rfl, by rw [Hcl.out, ← HRT.out.end_ (Nat.le_of_eq HmE.out.symm)]; exact ⟨_, HT.out⟩, HBB.out⟩
end Go.Proofs.YtkennmpbmbacpaaGreatDoor
