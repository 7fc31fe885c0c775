/- NotesOf of the reference. -/
import Derived.Test.YtlanbgpmmlnehaaNoteI
set_option linter.unusedSimpArgs false
set_option linter.unusedVariables false
set_option linter.unusedSectionVars false
namespace Go.Proofs.Ytlanbgpmmlnehaa
open Go.RowKit

/-- NotesOf keeps the note. -/
def keepN (who : Int) (f : Bool) (x : T4) : Bool := (who == -1 || x.2.1 == who) && (!f || x.2.2.2 != 0)
def notesF (next : Int) (l : List T4) (who : Int) (f : Bool) : List T4 := if audB next l = true then l.filter (keepN who f) else []
theorem keep_succ {l : List T4} {k : Nat} (hk : k < l.length) (p : T4 → Bool) : (l.take (k + 1)).filter p = if p (nt l k) = true then (l.take k).filter p ++ [nt l k] else (l.take k).filter p := by
  have hn : nt l k = l[k] := by unfold nt; simp [hk]
  rw [List.take_add_one, List.getElem?_eq_getElem hk, hn]
  simp only [Option.toList, List.filter_append]
  by_cases h : p l[k] = true <;> simp [h]
theorem le_room {n : Nat} (h : n ≤ 1000) : n + [(0 : Nat)].length ≤ 1048600 := by simp; omega
set_option maxRecDepth 100000 in
set_option maxHeartbeats 4000000 in
theorem notesS_of (v : Value) (next : Int) (l : List T4) (who : Int) (f : Bool) (w : World) (h : SlG EN w v l) (hx : Txt l) (hl : l.length ≤ 1048576) :
    Calls Try.prog 31 #[.agg #[v, .int .i64 next], .int .i64 who, .bool f] w fun e w' => ∃ v', e = .returned v' ∧ OwnG EN 49 w.heap.size w' v' (notesF next l who f) ∧ Below w.heap.size w w' := by
  have H := Lib.hid h
  have h1 := fun w h => auditValidS_of v next l w (sl4_of h) (by omega) hx
  obtain ⟨A, cap, rfl⟩ := h.shape
  have hcap := h.caps
  have hc1 := hcap.1
  have hc2 := hcap.2
  clear h hcap
  go_enter Try.func31, Try.ntmps31
  go_wp2
  go_loopw [7, 8] (fun o i wr => ∃ k : Nat, k ≤ l.length ∧ i = .int .i64 k ∧ (k = 0 ∨ audB next l = true) ∧ OwnG EN 49 (w.heap.size + 1) wr o ((l.take k).filter (keepN who f)) ∧ Below (w.alloc (.cells #[.slice A l.length cap, .int .i64 next] 39)).heap.size (w.alloc (.cells #[.slice A l.length cap, .int .i64 next] 39)) wr) (fun _ i _ => l.length - (intOf i).toNat)
  case atStart => exact ⟨0, Nat.zero_le _, rfl, .inl rfl, by simpa using ownG_empty _ (by simp) (by simp), (by (repeat (first | exact Below.refl _ _ | exact Hbl.out | refine Below.ext ?_ (by first | omega | (simp; omega) | simp) | refine Below.setCell ?_ (by first | omega | (simp; omega) | simp) _ | refine Below.alloc ?_ (by first | omega | (simp; omega) | simp) _ | refine Below.drew ?_ | refine below_drewN ?_ _ | refine Below.step (by assumption) (by first | omega | (simp; omega) | simp) ?_)))⟩
  case round =>
    obtain ⟨k, hk, rfl, hall, hown, hbl⟩ := hrel
    obtain ⟨m, hm⟩ : ∃ m, m = (l.take k).filter (keepN who f) := ⟨_, rfl⟩
    rw [← hm] at hown
    obtain ⟨A7, c7, rfl⟩ := ownG_shape hown
    have hml : m.length ≤ 1000 := by
      rcases hall with h | h
      · rw [hm, h]; simp
      · obtain ⟨_, _, k3, _⟩ := audB_all h
        rw [hm]
        exact Nat.le_trans (List.length_filter_le _ _) (by rw [List.length_take]; omega)
    have Hm := Lib.hid hm
    clear hm
    have q0 : wr.cell? ⟨w.heap.size, 0, none⟩ = some (.slice A l.length cap) := (hbl.cell (p := ⟨w.heap.size, 0, none⟩) (by simp)).trans (by go_simp)
    have q1 : wr.cell? ⟨w.heap.size, 1, none⟩ = some (.int .i64 next) := (hbl.cell (p := ⟨w.heap.size, 1, none⟩) (by simp)).trans (by go_simp)
    have hbw : Below w.heap.size w wr := Below.step hbl (by simp) (Below.alloc (Below.refl _ _) (Nat.le_refl _) _)
    have hwz : w.heap.size < wr.heap.size := by have := hbl.size; simp at this; omega
    have hS := H.out.below hbw
    have HS := Lib.hid hS
    have Hbl := Lib.hid hbl
    have Hbw := Lib.hid hbw
    have Hown := Lib.hid hown
    have Hall := Lib.hid hall
    clear hbl hbw hown hall hS
    by_cases hlt : k < l.length
    · go_wp2_with fail
      refine (h1 _ HS.out).mono ?_
      rintro e w1 ⟨rfl, hb1⟩
      cases ha : audB next l
      · have hk0 : k = 0 := by rcases Hall.out with h | h; exact h; rw [ha] at h; cases h
        subst hk0
        have hr : notesF next l who f = [] := by unfold notesF; rw [ha]; rfl
        have Hr := Lib.hid hr
        have hm0 : m = [] := Hm.out.trans (by simp)
        subst hm0
        have HB1 := Lib.hid hb1
        clear hr hb1
        go_wp2
        go_ret
        exact ⟨_, rfl, by rw [Hr.out]; exact ownG_mono (ownG_below Hown.out HB1.out) (by omega), Below.step HB1.out (by omega) Hbw.out⟩
      · have hxk : l[k]? = some (nt l k) := by unfold nt; simp [hlt]
        obtain ⟨b, off, rfl, hb, hat⟩ := HS.out.at_ hxk
        have c0 : wr.cell? ⟨b, off + k * 4, none⟩ = some (.int .i64 (nt l k).1) := hat 0 _ rfl
        have c1 : wr.cell? ⟨b, off + k * 4 + 1, none⟩ = some (.int .i64 (nt l k).2.1) := hat 1 _ rfl
        have c2 : wr.cell? ⟨b, off + k * 4 + 2, none⟩ = some (.string (nt l k).2.2.1) := hat 2 _ rfl
        have c3 : wr.cell? ⟨b, off + k * 4 + 3, none⟩ = some (.int .i64 (nt l k).2.2.2) := hat 3 _ rfl
        have hks := keep_succ hlt (keepN who f)
        rw [← Hm.out] at hks
        obtain ⟨d1, os1, rfl⟩ := ext_of_below hb1
        have Hks := Lib.hid hks
        have Hlt := Lib.hid hlt
        have hk1 : ((k : Int) < (l.length : Int)) := by omega
        clear hat hxk hb1 hks
        by_cases e1 : who = -1
        · subst e1
          cases f
          · go_wp2_with (at_builtin; refine wpList_appG fitN _ rfl (.tmp 46) (.tmp 52) rfl (w.heap.size + 1) (.slice A7 m.length c7) m rfl ?cO _ [nt l k] rfl ?cS ?cL ?cB ?_)
            case cO => exact ownG_alloc (ownG_ext Hown.out) _
            case cS => exact slG_one (by simp) (by intro j u hu; rcases j with _ | _ | _ | _ | j <;> simp [EN] at hu <;> subst hu <;> go_simp)
            case cL => exact le_room hml
            case cB => simp; omega
            intro v4 w4 ⟨o4, g4, a4⟩ hb4
            have O4 := Lib.hid o4
            have HB4 := Lib.hid hb4
            clear o4 g4 a4 hb4
            go_wp2
            go_roundw
            case rel => exact ⟨k + 1, Hlt.out, by go_num, .inr ha, by rw [Hks.out, if_pos (by simp [keepN, *])]; exact O4.out, Below.step HB4.out (by first | omega | (simp; done) | (simp; omega)) (Below.alloc (Below.ext Hbl.out (by first | omega | (simp; done) | (simp; omega))) (by first | omega | (simp; done) | (simp; omega)) _)⟩
            case measure => have := Hlt.out; simp [intOf]; omega
          · by_cases e3 : (nt l k).2.2.2 = 0
            · go_wp2
              go_roundw
              case rel => exact ⟨k + 1, Hlt.out, by go_num, .inr ha, by rw [Hks.out, if_neg (by simp [keepN, *])]; exact ownG_ext Hown.out, Below.ext Hbl.out (by first | omega | (simp; done) | (simp; omega))⟩
              case measure => have := Hlt.out; simp [intOf]; omega
            · go_wp2_with (at_builtin; refine wpList_appG fitN _ rfl (.tmp 46) (.tmp 52) rfl (w.heap.size + 1) (.slice A7 m.length c7) m rfl ?cO _ [nt l k] rfl ?cS ?cL ?cB ?_)
              case cO => exact ownG_alloc (ownG_ext Hown.out) _
              case cS => exact slG_one (by simp) (by intro j u hu; rcases j with _ | _ | _ | _ | j <;> simp [EN] at hu <;> subst hu <;> go_simp)
              case cL => exact le_room hml
              case cB => simp; omega
              intro v4 w4 ⟨o4, g4, a4⟩ hb4
              have O4 := Lib.hid o4
              have HB4 := Lib.hid hb4
              clear o4 g4 a4 hb4
              go_wp2
              go_roundw
              case rel => exact ⟨k + 1, Hlt.out, by go_num, .inr ha, by rw [Hks.out, if_pos (by simp [keepN, *])]; exact O4.out, Below.step HB4.out (by first | omega | (simp; done) | (simp; omega)) (Below.alloc (Below.ext Hbl.out (by first | omega | (simp; done) | (simp; omega))) (by first | omega | (simp; done) | (simp; omega)) _)⟩
              case measure => have := Hlt.out; simp [intOf]; omega
        · by_cases e2 : (nt l k).2.1 = who
          · cases f
            · go_wp2_with (at_builtin; refine wpList_appG fitN _ rfl (.tmp 46) (.tmp 52) rfl (w.heap.size + 1) (.slice A7 m.length c7) m rfl ?cO _ [nt l k] rfl ?cS ?cL ?cB ?_)
              case cO => exact ownG_alloc (ownG_ext Hown.out) _
              case cS => exact slG_one (by simp) (by intro j u hu; rcases j with _ | _ | _ | _ | j <;> simp [EN] at hu <;> subst hu <;> go_simp)
              case cL => exact le_room hml
              case cB => simp; omega
              intro v4 w4 ⟨o4, g4, a4⟩ hb4
              have O4 := Lib.hid o4
              have HB4 := Lib.hid hb4
              clear o4 g4 a4 hb4
              go_wp2
              go_roundw
              case rel => exact ⟨k + 1, Hlt.out, by go_num, .inr ha, by rw [Hks.out, if_pos (by simp [keepN, *])]; exact O4.out, Below.step HB4.out (by first | omega | (simp; done) | (simp; omega)) (Below.alloc (Below.ext Hbl.out (by first | omega | (simp; done) | (simp; omega))) (by first | omega | (simp; done) | (simp; omega)) _)⟩
              case measure => have := Hlt.out; simp [intOf]; omega
            · by_cases e3 : (nt l k).2.2.2 = 0
              · go_wp2
                go_roundw
                case rel => exact ⟨k + 1, Hlt.out, by go_num, .inr ha, by rw [Hks.out, if_neg (by simp [keepN, *])]; exact ownG_ext Hown.out, Below.ext Hbl.out (by first | omega | (simp; done) | (simp; omega))⟩
                case measure => have := Hlt.out; simp [intOf]; omega
              · go_wp2_with (at_builtin; refine wpList_appG fitN _ rfl (.tmp 46) (.tmp 52) rfl (w.heap.size + 1) (.slice A7 m.length c7) m rfl ?cO _ [nt l k] rfl ?cS ?cL ?cB ?_)
                case cO => exact ownG_alloc (ownG_ext Hown.out) _
                case cS => exact slG_one (by simp) (by intro j u hu; rcases j with _ | _ | _ | _ | j <;> simp [EN] at hu <;> subst hu <;> go_simp)
                case cL => exact le_room hml
                case cB => simp; omega
                intro v4 w4 ⟨o4, g4, a4⟩ hb4
                have O4 := Lib.hid o4
                have HB4 := Lib.hid hb4
                clear o4 g4 a4 hb4
                go_wp2
                go_roundw
                case rel => exact ⟨k + 1, Hlt.out, by go_num, .inr ha, by rw [Hks.out, if_pos (by simp [keepN, *])]; exact O4.out, Below.step HB4.out (by first | omega | (simp; done) | (simp; omega)) (Below.alloc (Below.ext Hbl.out (by first | omega | (simp; done) | (simp; omega))) (by first | omega | (simp; done) | (simp; omega)) _)⟩
                case measure => have := Hlt.out; simp [intOf]; omega
          · go_wp2
            go_roundw
            case rel => exact ⟨k + 1, Hlt.out, by go_num, .inr ha, by rw [Hks.out, if_neg (by simp [keepN, *])]; exact ownG_ext Hown.out, Below.ext Hbl.out (by first | omega | (simp; done) | (simp; omega))⟩
            case measure => have := Hlt.out; simp [intOf]; omega
    · go_wp2
      go_ret
      have hkl : k = l.length := by omega
      subst hkl
      refine ⟨_, rfl, ?_, Hbw.out⟩
      have hr : notesF next l who f = (l.take l.length).filter (keepN who f) := by
        unfold notesF
        rw [List.take_length]
        rcases Hall.out with h | h
        · have : l = [] := List.length_eq_zero_iff.1 h
          subst this
          simp
        · rw [if_pos h]
      rw [hr, ← Hm.out]
      exact ownG_mono Hown.out (by omega)
end Go.Proofs.Ytlanbgpmmlnehaa
