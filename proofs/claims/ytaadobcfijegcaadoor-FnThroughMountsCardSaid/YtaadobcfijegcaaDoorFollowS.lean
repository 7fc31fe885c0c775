/- Ways: the reference's 'FollowWay'; the exact law: the walk. -/
import Derived.Test.YtaadobcfijegcaaDoorPathP
import Derived.Test.YtaadobcfijegcaaDoorAppS
import Derived.Deep.RegionHeld3
set_option linter.unusedSimpArgs false
set_option linter.unusedVariables false
set_option linter.unusedSectionVars false
namespace Go.Proofs.YtaadobcfijegcaaDoor
open Go.RowKit

theorem follow_size (f y : List UInt8) : (followF f y).length ≤ 54 := by
  rcases follow_path f y with h | h
  · rw [h]; exact Nat.zero_le _
  · obtain ⟨h1, h2⟩ := ok_names h
    rw [← h2]
    generalize partsP (followF f y) = ps at h1
    by_cases hne : ps = []
    · subst hne; decide
    · rw [joinP_yes h1 hne]
      have hn := namesB_iff.1 h1
      have := joinL_size (ws := ps) (List.all_eq_true.2 hn.2)
      omega
theorem ok_size {p : List UInt8} (h : okP p = true) : p.length ≤ 54 := by
  rw [← follow_point h]; exact follow_size _ _
theorem slS_at {w : World} {A : Option Addr} {n c k : Nat} {ls : List (List UInt8)} (h : SlS w (.slice A n c) (ls.map mk)) (hk : k < ls.length) : ∃ b off, A = some ⟨b, off, none⟩ ∧ b < w.heap.size ∧ w.cell? ⟨b, off + k, none⟩ = some (.string (mk (ls.getD k []))) := by
  obtain ⟨A', c', e, _, _, h3⟩ := h
  injection e with e1 _ _
  subst e1
  rcases h3 with h3 | ⟨b, off, rfl, hb, hat⟩
  · rw [List.map_eq_nil_iff] at h3; subst h3; simp at hk
  · refine ⟨b, off, rfl, hb, ?_⟩
    rw [hat k (by rw [List.length_map]; exact hk), st_mk hk]
theorem slS_cap {w : World} {A : Option Addr} {n c : Nat} {ls : List (List UInt8)} (h : SlS w (.slice A n c) (ls.map mk)) : n = ls.length ∧ ls.length ≤ c ∧ c ≤ 9223372036854775807 := by
  obtain ⟨A', c', e, h1, h2, _⟩ := h
  injection e with _ e2 e3
  rw [List.length_map] at e2 h1
  unfold maxLen at h2
  omega
theorem slS_nil (w : World) : SlS w (.slice none 0 0) (([] : List (List UInt8)).map mk) := ⟨none, 0, rfl, Nat.le_refl _, by decide, .inl rfl⟩
theorem own_val1 {B : Nat} {w : World} {v : Value} {ls : List (List UInt8)} {x : ByteArray} (h : OwnS B w v (ls.map mk ++ [x])) : ∃ A c, v = .slice A (ls.length + 1) c := by
  obtain ⟨A, c, e⟩ := own_val h
  exact ⟨A, c, by rw [e, List.length_append, List.length_map]; rfl⟩
theorem own_emptyG {B g : Nat} (W : World) (hg : g = W.heap.size) (hB : B ≤ W.heap.size) : OwnS B (W.alloc (.cells #[] 9)) (.slice (some ⟨g, 0, none⟩) 0 0) [] := by
  subst hg
  exact own_empty W hB
set_option maxRecDepth 100000 in
set_option maxHeartbeats 4000000 in
theorem followS_of (F Y : ByteArray) (w : World) (hf : F.size ≤ 1048576) (hy : Y.size ≤ 1048576) : Calls Tryd.prog 25 #[.string F, .string Y] w fun e w' => e = .returned (.string (mk (followF F.data.toList Y.data.toList))) ∧ Below w.heap.size w w' := by
  have h1 := pathPartsS_of F w hf
  have h2 := fun w => wayValidS_of Y w hy
  have h4 := fun w => words_of Y w hy
  have hf' : F.data.toList.length ≤ 1048576 := by rw [size_list]; exact hf
  have hy' : Y.data.toList.length ≤ 1048576 := by rw [size_list]; exact hy
  have hY : Y.toList = Y.data.toList := Lib.toList_data Y
  have hYs : Y.data.toList.length = Y.size := size_list Y
  have hY0 : ∀ (h : 0 < Y.size), Y.data.toList[0]? = some Y[0] := fun h => by rw [List.getElem?_eq_getElem (by rw [size_list]; exact h)]; rfl
  generalize F.data.toList = f at h1 hf' ⊢
  generalize Y.data.toList = y at h2 h4 hy' hY hYs hY0 ⊢
  have h6 := partsP_len f
  have hps := partsP_sizes f
  have hwl := spl_len y
  have hws := spl_word y
  rcases and2 (okP f) (wayB y) with e1 | ⟨e1, e2⟩ | ⟨e1, e2⟩
  · have hr : mk (followF f y) = ⟨#[]⟩ := by unfold followF; rw [e1]; rfl
    have Hr := Lib.hid hr; clear hr
    go_enter Tryd.func25, Tryd.ntmps25
    go_wp2_with fail
    refine h1.mono ?_
    rintro e w1 ⟨v1, rfl, o1, b1⟩
    obtain ⟨A, n, c, rfl⟩ := own_valn o1
    rw [e1]
    go_wp2
    go_ret
    exact ⟨by rw [Hr.out]; rfl, b1⟩
  · have hr : mk (followF f y) = ⟨#[]⟩ := by unfold followF; rw [e1, e2]; rfl
    have Hr := Lib.hid hr; clear hr
    go_enter Tryd.func25, Tryd.ntmps25
    go_wp2_with fail
    refine h1.mono ?_
    rintro e w1 ⟨v1, rfl, o1, b1⟩
    obtain ⟨A, n, c, rfl⟩ := own_valn o1
    rw [e1]
    go_wp2_with fail
    refine (h2 w1).mono ?_
    rintro e w2 ⟨rfl, b2⟩
    rw [e2]
    go_wp2
    go_ret
    exact ⟨by rw [Hr.out]; rfl, Below.step b2 b1.size b1⟩
  · have hr : followF f y = endW (putWs (beginP f y) (spl y)) := by unfold followF; rw [e1, e2]; rfl
    have hcase : (∃ h : 0 < Y.size, Y[0] = 47 ∧ beginP f y = []) ∨ ((Y.size = 0 ∨ ∃ h : 0 < Y.size, Y[0] ≠ 47) ∧ beginP f y = partsP f) := by
      unfold beginP
      cases y with
      | nil => exact .inr ⟨.inl hYs.symm, rfl⟩
      | cons a r =>
        have h0 : 0 < Y.size := by rw [← hYs]; simp
        have ha : a = Y[0] := by have := hY0 h0; simpa using this
        by_cases hc : Y[0] = 47
        · exact .inl ⟨h0, hc, by rw [ha, hc, (cut_slash r).2]; rfl⟩
        · exact .inr ⟨.inr ⟨h0, hc⟩, by rw [(cut_other (l := a :: r) (fun r' e => hc (by rw [← ha]; cases e; rfl))).2]; rfl⟩
    have hb6 : (beginP f y).length ≤ 6 := by
      rcases hcase with ⟨_, _, e⟩ | ⟨_, e⟩
      · rw [e]; exact Nat.zero_le _
      · rw [e]; exact h6
    have hbs : ∀ x ∈ beginP f y, x.length ≤ 1048576 := by
      rcases hcase with ⟨_, _, e⟩ | ⟨_, e⟩
      · rw [e]; intro x hx; cases hx
      · rw [e]; intro x hx; have := hps x hx; omega
    rw [hr]
    clear hr hps hY0
    generalize hps0 : beginP f y = ps0 at hcase hb6 hbs ⊢
    clear hps0
    have Hws := Lib.hid hws; clear hws
    generalize hwsl : spl y = ws at h4 hwl Hws ⊢
    clear hwsl
    have Hbs := Lib.hid hbs; clear hbs
    have H2 := Lib.hid h2; clear h2
    have H4 := Lib.hid h4; clear h4
    go_enter Tryd.func25, Tryd.ntmps25
    go_wp2_with fail
    refine h1.mono ?_
    rintro e w1 ⟨v1, rfl, o1, b1⟩
    have O1 := Lib.hid o1
    obtain ⟨A, n, c, rfl⟩ := own_valn o1
    rw [e1]
    go_wp2_with fail
    refine (H2.out w1).mono ?_
    rintro e w2 ⟨rfl, b2⟩
    rw [e2]
    have c2 := Below.step b2 b1.size b1
    have s2 := (ownS_sl O1.out).below b2
    have S2 := Lib.hid s2
    clear o1 s2 h1
    have hgo : (∃ h : 0 < Y.size, Y[0] = 47 ∧ ps0 = []) ∨ ((Y.size = 0) ∧ ps0 = partsP f) ∨ ((∃ h : 0 < Y.size, Y[0] ≠ 47) ∧ ps0 = partsP f) := by
      rcases hcase with h | ⟨h | h, e⟩
      · exact .inl h
      · exact .inr (.inl ⟨h, e⟩)
      · exact .inr (.inr ⟨h, e⟩)
    clear hcase
    have hcase2 : ∀ (Q : World → Value → Prop), True := fun _ => trivial
    clear hcase2
    have hloop : ∀ (w4 : World) (v4 p : Value), OwnS w2.heap.size w4 v4 (ws.map mk) → Below w.heap.size w w4 → SlS w4 p (ps0.map mk) → True := fun _ _ _ _ _ _ => trivial
    clear hloop
    rcases hgo with ⟨y0, y1, e4⟩ | ⟨y0, e4⟩ | ⟨⟨y0, y1⟩, e4⟩
    case' inl =>
      have f0 : Y.toList.isEmpty = false := by
        rw [hY, Bool.eq_false_iff]; intro h; rw [List.isEmpty_iff] at h; rw [h] at hYs; simp at hYs; omega
      have f1 : ((Y[0].toNat : Int) == 47) = true := by rw [y1]; rfl
      clear hY hYs y1
      go_wp2_with fail
      refine (H4.out _).mono ?_
      rintro e w4 ⟨v4, rfl, o4, b4⟩
      have s4 : SlS w4 (.slice (some ⟨w2.heap.size, 0, none⟩) 0 0) (ps0.map mk) := by rw [e4]; exact ⟨_, 0, rfl, Nat.le_refl _, by decide, .inl rfl⟩
      have c4 : Below w.heap.size w w4 := Below.step b4 (by simp; have := c2.size; omega) (Below.alloc c2 c2.size _)
    case' inr.inl =>
      have f0 : Y.toList = [] := by
        rw [hY]; exact List.length_eq_zero_iff.1 (by omega)
      clear hY hYs
      go_wp2_with fail
      refine (H4.out _).mono ?_
      rintro e w4 ⟨v4, rfl, o4, b4⟩
      have s4 : SlS w4 (.slice A n c) (ps0.map mk) := by rw [e4]; exact S2.out.below b4
      have c4 : Below w.heap.size w w4 := Below.step b4 c2.size c2
    case' inr.inr =>
      have f0 : Y.toList.isEmpty = false := by
        rw [hY, Bool.eq_false_iff]; intro h; rw [List.isEmpty_iff] at h; rw [h] at hYs; simp at hYs; omega
      have f1 : ((Y[0].toNat : Int) == 47) = false := by
        rw [beq_eq_false_iff_ne]; intro e
        exact y1 (UInt8.toNat_inj.1 (by have : Y[0].toNat = 47 := by omega
                                        rw [this]; rfl))
      clear hY hYs y1
      go_wp2_with fail
      refine (H4.out _).mono ?_
      rintro e w4 ⟨v4, rfl, o4, b4⟩
      have s4 : SlS w4 (.slice A n c) (ps0.map mk) := by rw [e4]; exact S2.out.below b4
      have c4 : Below w.heap.size w w4 := Below.step b4 c2.size c2
    all_goals
      have hs4 := ownS_sl o4
      have Hs4 := Lib.hid hs4
      have S4 := Lib.hid s4
      obtain ⟨AW, cW, rfl⟩ := sl_valm hs4
      clear hs4 s4 o4 e4 S2 O1
      go_wp2
      go_loopw [8, 5] (fun i p wr => ∃ (k : Nat) (ps : List (List UInt8)), k ≤ ws.length ∧ i = .int .i64 k ∧ putWs ps0 ws = putWs ps (ws.drop k) ∧ ps.length ≤ 6 ∧ (∀ x ∈ ps, x.length ≤ 1048576) ∧ SlS wr p (ps.map mk) ∧ SlS wr (.slice AW ws.length cW) (ws.map mk) ∧ Below w.heap.size w wr) (fun i _ _ => ws.length - (intOf i).toNat)
      case atStart => exact ⟨0, ps0, Nat.zero_le _, rfl, rfl, hb6, Hbs.out, S4.out, Hs4.out, c4⟩
      case round =>
        obtain ⟨k, ps, hk, rfl, hput, hp6, hpsz, hsp, hsw, hbl⟩ := hrel
        have Hput := Lib.hid hput
        have Hpsz := Lib.hid hpsz
        have Hsp := Lib.hid hsp
        have Hsw := Lib.hid hsw
        have Hbl := Lib.hid hbl
        have hwr : w.heap.size ≤ wr.heap.size := hbl.size
        obtain ⟨A', c', rfl⟩ := sl_valm hsp
        obtain ⟨_, hc1, hc2⟩ := slS_cap hsp
        clear hput hpsz hsw hbl hsp
        by_cases hlt : k < ws.length
        · obtain ⟨b, off, rfl, hb, cw⟩ := slS_at Hsw.out hlt
          have hpc := put_cases ps (ws.getD k [])
          have hdr := drop_getD hlt
          have hx1 : (mk (ws.getD k [])).toList = ws.getD k [] := mk_toList _
          have hxl : (ws.getD k []).length ≤ 1048576 := by
            have := Hws.out (ws.getD k []) (by rw [List.getD_eq_getElem?_getD, List.getElem?_eq_getElem hlt]; exact List.getElem_mem hlt)
            omega
          have hnx : ∀ q, putW ps (ws.getD k []) = some q → putWs ps0 ws = putWs q (ws.drop (k + 1)) := fun q hq => by
            rw [Hput.out, hdr]
            show (match putW ps (ws.getD k []) with | some q => putWs q (ws.drop (k + 1)) | none => none) = _
            rw [hq]
          have hno : putW ps (ws.getD k []) = none → putWs ps0 ws = none := fun hq => by
            rw [Hput.out, hdr]
            show (match putW ps (ws.getD k []) with | some q => putWs q (ws.drop (k + 1)) | none => none) = _
            rw [hq]
          have Hnx := Lib.hid hnx
          have Hno := Lib.hid hno
          clear hnx hno hdr
          have p7 : ¬ (6 : Int) < (ps.length : Int) := by omega
          have zk : IntKind.i64.wrap ((k : Int) + 1) = (k : Int) + 1 := IntWalk.i64_in _ (by omega)
          rcases hpc with ⟨d1, d2⟩ | ⟨d1, d2, d3, d4⟩ | ⟨d1, d2, d3, d4, d5⟩ | ⟨d1, d2, d3, d4, d5⟩
          · have D2 := Lib.hid d2; clear d2
            have d1' : (mk (ws.getD k [])).toList = [] ∨ (¬ (mk (ws.getD k [])).toList = [] ∧ (mk (ws.getD k [])).toList = [46]) := by rw [hx1]; exact d1
            clear d1 hx1
            generalize mk (ws.getD k []) = x at cw d1'
            rcases d1' with d1 | ⟨d1, d2⟩
            · go_wp2
              go_roundw
              case rel => exact ⟨k + 1, ps, by omega, by go_num, Hnx.out _ D2.out, hp6, Hpsz.out, Hsp.out, Hsw.out, Hbl.out⟩
              case measure => simp [intOf]; omega
            · have d1f : x.toList.isEmpty = false := by rw [Bool.eq_false_iff]; intro h; exact d1 (List.isEmpty_iff.1 h)
              go_wp2
              go_roundw
              case rel => exact ⟨k + 1, ps, by omega, by go_num, Hnx.out _ D2.out, hp6, Hpsz.out, Hsp.out, Hsw.out, Hbl.out⟩
              case measure => simp [intOf]; omega
          · have D4 := Lib.hid d4; clear d4
            have g1 : ¬ (mk (ws.getD k [])).toList = [] := by rw [hx1]; exact d1
            have g2 : ¬ (mk (ws.getD k [])).toList = [46] := by rw [hx1]; exact d2
            have g3 : (mk (ws.getD k [])).toList = [46, 46] := by rw [hx1]; exact d3
            clear d1 d2 d3 hx1
            generalize mk (ws.getD k []) = x at cw g1 g2 g3
            have g1f : x.toList.isEmpty = false := by rw [Bool.eq_false_iff]; intro h; exact g1 (List.isEmpty_iff.1 h)
            have g2f : (x.toList == [46]) = false := beq_eq_false_iff_ne.2 g2
            have hdl : ∀ x ∈ ps.dropLast, x.length ≤ 1048576 := fun x hx => Hpsz.out x (by rw [List.dropLast_eq_take] at hx; exact List.mem_of_mem_take hx)
            have Hdl := Lib.hid hdl
            have hdl6 : ps.dropLast.length ≤ 6 := by rw [List.length_dropLast]; omega
            have sdr : SlS wr (.slice A' (ps.length - 1) c') (ps.dropLast.map mk) := by
              rw [List.dropLast_eq_take, List.map_take]
              exact slS_take Hsp.out (by rw [List.length_map]; omega)
            have Sdr := Lib.hid sdr
            clear hdl sdr
            by_cases hp0 : ps.length = 0
            · have hp00 : ps = [] := List.length_eq_zero_iff.1 hp0
              have Hp00 := Lib.hid hp00
              have hp0' : ¬ (0 : Int) < (ps.length : Int) := by omega
              clear hp00
              go_wp2
              go_roundw
              case rel => exact ⟨k + 1, ps, by omega, by go_num, by have := Hnx.out _ D4.out; rw [Hp00.out] at this ⊢; exact this, hp6, Hpsz.out, Hsp.out, Hsw.out, Hbl.out⟩
              case measure => simp [intOf]; omega
            · obtain ⟨b', off', rfl, hb', _⟩ := slS_at Hsp.out (k := 0) (by omega)
              have hp0' : (0 : Int) < (ps.length : Int) := by omega
              have hz : ((ps.length - 1 : Nat) : Int) = (ps.length : Int) - 1 := by omega
              have p8 : ¬ (6 : Int) < (ps.length : Int) - 1 := by omega
              go_wp2
              go_roundw
              case rel => exact ⟨k + 1, ps.dropLast, by omega, by go_num, Hnx.out _ D4.out, hdl6, Hdl.out, Sdr.out, Hsw.out, Hbl.out⟩
              case measure => simp [intOf]; omega
          all_goals
            have D5 := Lib.hid d5; clear d5
            have D4 := Lib.hid d4
            first | (have p9 : (6 : Int) < (ps.length : Int) + 1 := by omega) | (have p9 : ¬ (6 : Int) < (ps.length : Int) + 1 := by omega)
            clear d4
            have g1 : ¬ (mk (ws.getD k [])).toList = [] := by rw [hx1]; exact d1
            have g2 : ¬ (mk (ws.getD k [])).toList = [46] := by rw [hx1]; exact d2
            have g3 : ¬ (mk (ws.getD k [])).toList = [46, 46] := by rw [hx1]; exact d3
            have hsz7 : ∀ x ∈ ps ++ [ws.getD k []], x.length ≤ 1048576 := fun x hx => by
              rcases List.mem_append.1 hx with h | h
              · exact Hpsz.out x h
              · rw [List.mem_singleton.1 h]; exact hxl
            have Hsz7 := Lib.hid hsz7
            have hmm : (ps ++ [ws.getD k []]).map mk = ps.map mk ++ [mk (ws.getD k [])] := by rw [List.map_append]; rfl
            have Hmm := Lib.hid hmm
            have hml : (ps.map mk).length = ps.length := List.length_map _
            have Hml := Lib.hid hml
            clear d1 d2 d3 hx1 hsz7 hmm hml
            generalize mk (ws.getD k []) = x at cw g1 g2 g3 Hmm
            have g1f : x.toList.isEmpty = false := by rw [Bool.eq_false_iff]; intro h; exact g1 (List.isEmpty_iff.1 h)
            have g2f : (x.toList == [46]) = false := beq_eq_false_iff_ne.2 g2
            have g3f : (x.toList == [46, 46]) = false := beq_eq_false_iff_ne.2 g3
            have hkw : (k : Int) < (ws.length : Int) := by omega
            go_wp2
            go_region_held3 (fun w' => w'.cell? ⟨b, off + k, none⟩ = some (.string x)) (first | assumption | (go_simp; done) | (rw [cx1]; first | assumption | (go_simp; done)) | (rw [cx2]; first | assumption | (go_simp; done))) (first | (refine step_appSG _ rfl (.tmp 41) (.tmp 42) rfl wr.heap.size (.slice (some ⟨_, 0, none⟩) 0 0) [] rfl ?_ _ (ps.map mk) rfl ?_ ?_ ?_ ?_; (focus (first | (refine own_emptyG _ ?_ ?_ <;> (simp; try omega); done) | (refine World.ownsRow.alloc (own_emptyG _ ?_ ?_) _ <;> (simp; try omega); done))); (focus (refine Hsp.out.below ?_; (repeat (first | exact Below.refl _ _ | exact Hbl.out | refine Below.ext ?_ (by first | omega | (simp; omega) | simp) | refine Below.setCell ?_ (by first | omega | (simp; omega) | simp) _ | refine Below.alloc ?_ (by first | omega | (simp; omega) | simp) _ | refine Below.drew ?_ | refine below_drewN ?_ _ | refine Below.step (by assumption) (by first | omega | (simp; omega) | simp) ?_)))); (focus (rw [Hml.out]; first | omega | (simp; done) | (simp; omega))); (focus (first | omega | (simp; done) | (simp; omega))); rintro v1 w1 ⟨o1, g1, a1⟩ hb1; have cx1 := hb1.cell (p := ⟨b, off + k, none⟩) hb; have hz1 := hb1.size; (try simp at hz1)) | (refine step_appSG _ rfl (.tmp 43) (.tmp 48) rfl wr.heap.size _ (ps.map mk) rfl ?_ _ [x] rfl ?_ ?_ ?_ ?_; (focus (first | exact o1 | exact World.ownsRow.alloc o1 _)); (focus (refine slS_one ?_; first | (go_simp; done) | (refine g1.cell ?_ ?_; (focus (go_simp)); (focus (simp [Value.ownBlock]; try omega))))); (focus (rw [Hml.out]; first | omega | (simp; done) | (simp; omega))); (focus (first | omega | (simp; done) | (simp; omega))); rintro v2 w2 ⟨o2, g2, a2⟩ hb2; have cx2 := hb2.cell (p := ⟨b, off + k, none⟩) hb; have hz2 := hb2.size; (try simp at hz2)))
            all_goals
              have t1 : Below w.heap.size w w1 := Below.step hb1 hwr (by (repeat (first | exact Below.refl _ _ | exact Hbl.out | refine Below.ext ?_ (by first | omega | (simp; omega) | simp) | refine Below.setCell ?_ (by first | omega | (simp; omega) | simp) _ | refine Below.alloc ?_ (by first | omega | (simp; omega) | simp) _ | refine Below.drew ?_ | refine below_drewN ?_ _ | refine Below.step (by assumption) (by first | omega | (simp; omega) | simp) ?_)))
              have t2 : Below w.heap.size w w2 := Below.step hb2 hwr (by first | exact t1 | exact Below.alloc t1 t1.size _)
              have s2 : SlS w2 v2 ((ps ++ [ws.getD k []]).map mk) := by rw [Hmm.out]; exact ownS_sl o2
              have sw2 : SlS w2 (.slice (some ⟨b, off, none⟩) ws.length cW) (ws.map mk) := Hsw.out.below (Below.step hb2 (Nat.le_refl _) (by first | exact Below.step hb1 (Nat.le_refl _) (by (repeat (first | exact Below.refl _ _ | exact Hbl.out | refine Below.ext ?_ (by first | omega | (simp; omega) | simp) | refine Below.setCell ?_ (by first | omega | (simp; omega) | simp) _ | refine Below.alloc ?_ (by first | omega | (simp; omega) | simp) _ | refine Below.drew ?_ | refine below_drewN ?_ _ | refine Below.step (by assumption) (by first | omega | (simp; omega) | simp) ?_))) | exact Below.alloc (Below.step hb1 (Nat.le_refl _) (by (repeat (first | exact Below.refl _ _ | exact Hbl.out | refine Below.ext ?_ (by first | omega | (simp; omega) | simp) | refine Below.setCell ?_ (by first | omega | (simp; omega) | simp) _ | refine Below.alloc ?_ (by first | omega | (simp; omega) | simp) _ | refine Below.drew ?_ | refine below_drewN ?_ _ | refine Below.step (by assumption) (by first | omega | (simp; omega) | simp) ?_)))) (by omega) _))
              have S2 := Lib.hid s2
              have Sw2 := Lib.hid sw2
              obtain ⟨A2, c2', rfl⟩ := own_val1 o2
              clear s2 sw2 o1 o2 g1 g2 a1 a2 hb1 hb2 cx1 cx2
              first
              | (have hz := Hno.out D5.out
                 have hr : mk (endW (putWs ps0 ws)) = ⟨#[]⟩ := by rw [hz]; rfl
                 have Hr := Lib.hid hr
                 clear hr hz
                 go_wp2
                 go_ret
                 exact ⟨by rw [Hr.out]; rfl, t2⟩)
              | (have hl7 : (ps ++ [ws.getD k []]).length ≤ 6 := by rw [List.length_append, List.length_singleton]; have := D4.out; omega
                 have Hl7 := Lib.hid hl7
                 clear hl7
                 go_wp2
                 go_roundw
                 case rel => exact ⟨k + 1, ps ++ [ws.getD k []], by omega, by go_num, Hnx.out _ D5.out, Hl7.out, Hsz7.out, S2.out, Sw2.out, t2⟩
                 case measure => simp [intOf]; omega)
        · obtain rfl : k = ws.length := by omega
          have hend : putWs ps0 ws = some ps := by rw [Hput.out, List.drop_length]; rfl
          have hj := joinS_of (.slice A' ps.length c') ps wr Hsp.out (by omega) Hpsz.out
          have hr : mk (endW (putWs ps0 ws)) = mk (joinP ps) := by rw [hend]; rfl
          have Hr := Lib.hid hr
          generalize mk (joinP ps) = z at hj Hr
          have Hj := Lib.hid hj
          clear hj hend hr
          go_wp2_with fail
          refine Hj.out.mono ?_
          rintro e w5 ⟨rfl, rfl⟩
          go_wp2
          go_ret
          exact ⟨by rw [Hr.out]; rfl, Hbl.out⟩
end Go.Proofs.YtaadobcfijegcaaDoor
