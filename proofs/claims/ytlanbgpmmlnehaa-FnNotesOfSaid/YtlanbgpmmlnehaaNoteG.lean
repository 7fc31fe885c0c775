/- Notes as generic rows; what 'AddNote' gives; the reference's 'AddNote'. -/
import Derived.Test.YtlanbgpmmlnehaaRowF
import Derived.Test.YtlanbgpmmlnehaaAudI
import Derived.Test.YtlanbgpmmlnehaaAudS
import Derived.Test.YtlanbgpmmlnehaaRow4
import Derived.Test.YtlanbgpmmlnehaaDraw
import Derived.Deep.RegionHeld3
import Derived.Deep.Cut
set_option linter.unusedSimpArgs false
set_option linter.unusedVariables false
set_option linter.unusedSectionVars false
namespace Go.Proofs.Ytlanbgpmmlnehaa
open Go.RowKit

def EN : Lay T4 := ⟨4, by decide, fun x => [.int .i64 x.1, .int .i64 x.2.1, .string x.2.2.1, .int .i64 x.2.2.2], fun _ => rfl, fun _ u hu => by
  simp at hu
  rcases hu with h | h | h | h <;> rw [h] <;> rfl⟩
theorem info_partsN {P : Program} {e : TypeId} {z : Value} {n k : Nat} (h : (P.info? e).map (fun i => (i.zero, i.size, i.bytes)) = some (some z, n, k)) : ∃ i, P.info? e = some i ∧ i.zero = some z ∧ i.size = n ∧ i.bytes = k := by
  cases hi : P.info? e with
  | none => rw [hi] at h; cases h
  | some i =>
    rw [hi] at h
    have h' : (i.zero, i.size, i.bytes) = (some z, n, k) := Option.some.inj h
    simp only [Prod.mk.injEq] at h'
    exact ⟨i, rfl, h'.1, h'.2.1, h'.2.2⟩
theorem fitN : Fit Try.prog EN 37 49 :=
  ⟨Try.underlying37, by
    obtain ⟨i, h1, h2, h3, h4⟩ := info_partsN infoNote
    exact ⟨i, _, _, h1, h2, h3, h4, rfl, by decide⟩⟩
theorem nt_at {l : List T4} {i : Nat} (h : i < l.length) : l[i]? = some (nt l i) := by
  unfold nt
  rw [List.getD_eq_getElem?_getD, List.getElem?_eq_getElem h]; rfl
theorem sl4_of {w : World} {v : Value} {l : List T4} (h : SlG EN w v l) : Sl4 w v l := by
  obtain ⟨A, cap, e, h1, h2, h3⟩ := h
  refine ⟨A, cap, e, h1, h2, h3.imp id fun ⟨b, off, e, hb, hat⟩ => ⟨b, off, e, hb, fun i hi => ?_⟩⟩
  have hx := nt_at hi
  exact ⟨hat i _ hx 0 _ rfl, hat i _ hx 1 _ rfl, hat i _ hx 2 _ rfl, hat i _ hx 3 _ rfl⟩
theorem slG_of4 {w : World} {v : Value} {l : List T4} (h : Sl4 w v l) : SlG EN w v l := by
  obtain ⟨A, cap, e, h1, h2, h3⟩ := h
  refine ⟨A, cap, e, h1, h2, h3.imp id fun ⟨b, off, e, hb, hat⟩ => ⟨b, off, e, hb, fun i x hx j u hu => ?_⟩⟩
  have hi : i < l.length := (List.getElem?_eq_some_iff.1 hx).1
  rw [nt_at hi] at hx
  injection hx with hx
  subst hx
  obtain ⟨c0, c1, c2, c3⟩ := hat i hi
  rcases j with _ | _ | _ | _ | j
  · simp [EN] at hu; subst hu; exact c0
  · simp [EN] at hu; subst hu; exact c1
  · simp [EN] at hu; subst hu; exact c2
  · simp [EN] at hu; subst hu; exact c3
  · simp [EN] at hu
/-- One note more, without the first one if there would be more than 10. -/
def addL (next : Int) (l : List T4) (who : Int) (what : ByteArray) (fault : Int) : List T4 := if 10 < l.length + 1 then (l ++ [(next, who, what, fault)]).drop 1 else l ++ [(next, who, what, fault)]
/-- What 'AddNote' gives: the notes, the next number, whether it went. -/
def addF (next : Int) (l : List T4) (who : Int) (what : ByteArray) (fault : Int) : List T4 × Int × Bool :=
  if audB next l = true then (if audB (next + 1) (addL next l who what fault) = true then (addL next l who what fault, next + 1, true) else (l, next, false)) else ([], 0, false)
theorem txt_app {l : List T4} {x : T4} (h : Txt l) (hx : x.2.2.1.size ≤ maxLen) : Txt (l ++ [x]) := by
  intro i hi
  by_cases hl : i < l.length
  · rw [nt_app_lt hl]; exact h i hl
  · rw [List.length_append, List.length_singleton] at hi
    rw [nt_app_ge (by omega), show i - l.length = 0 from by omega]; exact hx
theorem nt_drop (l : List T4) (n k : Nat) : nt (l.drop n) k = nt l (n + k) := by
  unfold nt
  rw [List.getD_eq_getElem?_getD, List.getD_eq_getElem?_getD, List.getElem?_drop]
theorem txt_drop {l : List T4} (h : Txt l) (n : Nat) : Txt (l.drop n) := by
  intro i hi
  rw [List.length_drop] at hi
  rw [nt_drop]; exact h _ (by omega)
def AddGot (w : World) (r : List T4 × Int × Bool) (e : Ending) (w' : World) : Prop := ∃ v', e = .returned (.tuple #[.agg #[v', .int .i64 r.2.1], .bool r.2.2]) ∧ RowF EN w.heap.size w' v' r.1 ∧ Below w.heap.size w w'
theorem appG_rules {α : Type} {E : Lay α} {T B G n c : Nat} {W w' : World} {l : List α} {v' : Value} (h : AppG E T W B (.slice (some ⟨G, 0, none⟩) n c) l v' w') :
    (∀ b o, LtA b W.heap.size → ((⟨b, 0, none⟩ : Addr) = ⟨G, 0, none⟩) = False → w'.cell? ⟨b, o, none⟩ = W.cell? ⟨b, o, none⟩) ∧ (∀ b o, LtA b W.heap.size → ((⟨b, 0, none⟩ : Addr) = ⟨G, 0, none⟩) = False → w'.frozen? ⟨b, o, none⟩ = W.frozen? ⟨b, o, none⟩) ∧ W.heap.size ≤ w'.heap.size ∧
    ∃ G' c', v' = .slice (some ⟨G', 0, none⟩) l.length c' ∧ (G' = G ∨ G' = W.heap.size) ∧ G' < w'.heap.size := by
  obtain ⟨ho, hg, ha⟩ := h
  have hne : ∀ b, ((⟨b, 0, none⟩ : Addr) = ⟨G, 0, none⟩) = False → some b ≠ some G := fun b hb e => by
    injection e with e
    subst e
    simp at hb
  refine ⟨fun b o hb hn => World.cell?_of_block (hg.block b hb (hne b hn)), fun b o hb hn => World.frozen?_of_block (hg.block b hb (hne b hn)), hg.size, ?_⟩
  have hlt := fun j hj => (ho.lt j hj).2
  rcases ho.2 with ⟨rfl, _⟩ | ⟨g, c', cur, rfl, _⟩
  · rcases ha with e | e <;> cases e
  · refine ⟨g, c', rfl, ?_, hlt g rfl⟩
    rcases ha with e | e
    · left; injection e
    · right; injection e
theorem ownG_setCell {α : Type} {E : Lay α} {T B G n c g o : Nat} {w : World} {u : Value} {l : List α} (h : OwnG E T B w (.slice (some ⟨G, 0, none⟩) n c) l) (hne : G ≠ g) : OwnG E T B (w.setCell ⟨g, o, none⟩ u) (.slice (some ⟨G, 0, none⟩) n c) l := by
  refine ⟨h.1, h.2.imp id fun ⟨g', c', cur, e1, e2, e3, e4⟩ => ⟨g', c', cur, e1, e2, ?_, e4⟩⟩
  have : g' = G := by injection e1 with e _ _; injection e with e; injection e with e; exact e.symm
  subst this
  rw [← e3]
  simp only [World.setCell, Array.getElem?_modify]
  rw [if_neg (fun e => hne e.symm)]
theorem rowF_setCell {α : Type} {E : Lay α} {B g o : Nat} {w : World} {v u : Value} {l : List α} (h : RowF E B w v l) (hne : ∀ j, v.ownBlock = some j → j ≠ g) : RowF E B (w.setCell ⟨g, o, none⟩ u) v l := by
  obtain ⟨A, cap, rfl, h1, h2, h3⟩ := h
  refine ⟨A, cap, rfl, h1, h2, ?_⟩
  rcases h3 with h3 | ⟨b, off, rfl, hB, hlt, hat, hw⟩
  · exact .inl h3
  · have hbg : b ≠ g := hne b rfl
    have hc : ∀ j, (w.setCell ⟨g, o, none⟩ u).cell? ⟨b, j, none⟩ = w.cell? ⟨b, j, none⟩ := fun j => World.cell?_setCell_other _ _ _ _ (fun e => hbg (by cases e; rfl))
    exact .inr ⟨b, off, rfl, hB, by simpa [World.setCell] using hlt, fun i x hx j y hy => by rw [hc]; exact hat i x hx j y hy, fun j hj => by rw [hc, World.frozen?_setCell]; exact hw j hj⟩
set_option maxRecDepth 100000 in
set_option maxHeartbeats 8000000 in
theorem addNoteS_of (v : Value) (next : Int) (l : List T4) (who : Int) (what : ByteArray) (fault : Int) (w : World) (h : SlG EN w v l) (hx : Txt l) (hl : l.length ≤ 1000) (hs : what.size ≤ maxLen) :
    Calls Try.prog 27 #[.agg #[v, .int .i64 next], .int .i64 who, .string what, .int .i64 fault] w (AddGot w (addF next l who what fault)) := by
  have H := Lib.hid h
  have h1 := fun w h => auditValidS_of v next l w (sl4_of h) (by omega) hx
  have h2 := fun v n m w h hm hx => auditValidS_of v n m w (sl4_of h) hm hx
  have hx2 := txt_app (x := (next, who, what, fault)) hx hs
  obtain ⟨A, cap, rfl⟩ := h.shape
  have hcap := h.caps
  have hc1 := hcap.1
  have hc2 := hcap.2
  clear h hcap
  go_enter Try.func27, Try.ntmps27
  go_wp2_with fail
  refine (h1 _ (H.out.below (by (repeat (first | exact Below.refl _ _ | exact Hbl.out | refine Below.ext ?_ (by first | omega | (simp; omega) | simp) | refine Below.setCell ?_ (by first | omega | (simp; omega) | simp) _ | refine Below.alloc ?_ (by first | omega | (simp; omega) | simp) _ | refine Below.drew ?_ | refine below_drewN ?_ _ | refine Below.step (by assumption) (by first | omega | (simp; omega) | simp) ?_))))).mono ?_
  rintro e w1 ⟨rfl, hb⟩
  obtain ⟨d1, os1, rfl⟩ := ext_of_below hb; clear hb
  cases ha : audB next l
  · have hr : addF next l who what fault = ([], 0, false) := by unfold addF; rw [ha]; rfl
    have Hr := Lib.hid hr
    clear hr
    go_wp2
    simp [bodyPost, results, Try.results27, go_sem]
    exact ⟨_, by rw [Hr.out], by rw [Hr.out]; exact rowF_own (ownG_none (T := 49) _ _), (by (repeat (first | exact Below.refl _ _ | exact Hbl.out | refine Below.ext ?_ (by first | omega | (simp; omega) | simp) | refine Below.setCell ?_ (by first | omega | (simp; omega) | simp) _ | refine Below.alloc ?_ (by first | omega | (simp; omega) | simp) _ | refine Below.drew ?_ | refine below_drewN ?_ _ | refine Below.step (by assumption) (by first | omega | (simp; omega) | simp) ?_)))⟩
  · have hall := audB_all ha
    have n0 := hall.1
    have n1 := hall.2.1
    have n2 := hall.2.2.1
    have hl10 : l.length ≤ 10 := by omega
    have zn : IntKind.i64.wrap (next + 1) = next + 1 := IntWalk.i64_in _ (by omega)
    clear hall n2
    go_wp2
    have hWc : ∃ W : World, W = ext ((w.alloc (Obj.cells #[.slice A l.length cap, .int .i64 next] 39)).alloc (Obj.cells #[.slice none 0 0, .int .i64 0] 39)) d1 os1 := ⟨_, rfl⟩
    obtain ⟨W, hW⟩ := hWc
    have hbW : Below w.heap.size w W := by rw [hW]; exact (by (repeat (first | exact Below.refl _ _ | exact Hbl.out | refine Below.ext ?_ (by first | omega | (simp; omega) | simp) | refine Below.setCell ?_ (by first | omega | (simp; omega) | simp) _ | refine Below.alloc ?_ (by first | omega | (simp; omega) | simp) _ | refine Below.drew ?_ | refine below_drewN ?_ _ | refine Below.step (by assumption) (by first | omega | (simp; omega) | simp) ?_)))
    have hHW := H.out.below hbW
    have HW := Lib.hid hHW
    have q0 : W.cell? ⟨w.heap.size, 0, none⟩ = some (.slice A l.length cap) := by rw [hW]; go_simp
    have q1 : W.cell? ⟨w.heap.size, 1, none⟩ = some (.int .i64 next) := by rw [hW]; go_simp
    have r0 : W.cell? ⟨w.heap.size + 1, 0, none⟩ = some (.slice none 0 0) := by rw [hW]; go_simp
    have r1 : W.cell? ⟨w.heap.size + 1, 1, none⟩ = some (.int .i64 0) := by rw [hW]; go_simp
    have f0 : W.frozen? ⟨w.heap.size + 1, 0, none⟩ = false := by rw [hW]; go_simp
    have f1 : W.frozen? ⟨w.heap.size + 1, 1, none⟩ = false := by rw [hW]; go_simp
    have hWs : w.heap.size + 2 ≤ W.heap.size := by rw [hW]; simp
    rw [← hW]
    have HbW := Lib.hid hbW
    clear hW hHW hbW
    go_cut [10] from 15 (fun p w' => ∃ (g G c : Nat), p = .pointer (some ⟨g, 0, none⟩) ∧ w'.cell? ⟨g, 0, none⟩ = some (.slice (some ⟨G, 0, none⟩) (l.length + 1) c) ∧ w'.cell? ⟨g, 1, none⟩ = some (.int .i64 (next + 1)) ∧ w'.frozen? ⟨g, 0, none⟩ = false ∧ w'.frozen? ⟨g, 1, none⟩ = false ∧ W.heap.size ≤ g ∧ g < w'.heap.size ∧ G ≠ g ∧ OwnG EN 49 W.heap.size w' (.slice (some ⟨G, 0, none⟩) (l.length + 1) c) (l ++ [(next, who, what, fault)]) ∧ Below W.heap.size W w')
    case first =>
      go_region_held3 (fun w' => w'.cell? ⟨w.heap.size, 0, none⟩ = some (.slice A l.length cap) ∧ w'.cell? ⟨w.heap.size, 1, none⟩ = some (.int .i64 next)) (first | assumption | (go_simp; done) | fail) (first | (refine step_appG fitN _ rfl (.tmp 15) (.tmp 17) rfl W.heap.size (.slice (some ⟨_, 0, none⟩) 0 0) [] rfl ?_ _ l rfl ?_ ?_ ?_ ?_; (focus (first | (refine ownG_empty _ ?_ ?_ <;> (first | omega | (simp; done) | (simp; omega)); done) | (refine ownG_alloc (ownG_empty _ ?_ ?_) _ <;> (first | omega | (simp; done) | (simp; omega)); done) | (refine ownG_alloc (ownG_alloc (ownG_empty _ ?_ ?_) _) _ <;> (first | omega | (simp; done) | (simp; omega)); done))); (focus (refine HW.out.below ?_; (repeat (first | exact Below.refl _ _ | exact Hbl.out | refine Below.ext ?_ (by first | omega | (simp; omega) | simp) | refine Below.setCell ?_ (by first | omega | (simp; omega) | simp) _ | refine Below.alloc ?_ (by first | omega | (simp; omega) | simp) _ | refine Below.drew ?_ | refine below_drewN ?_ _ | refine Below.step (by assumption) (by first | omega | (simp; omega) | simp) ?_)))); (focus (first | omega | (simp; done) | (simp; omega))); (focus (first | omega | (simp; done) | (simp; omega))); rintro v4 w4 ha4 hb4; obtain ⟨rc4, rf4, hz4, G4, c4, rfl, hG4, hL4⟩ := appG_rules ha4; (try simp at hz4); (try simp at hG4); have O4 := Lib.hid ha4.1; have HB4 := Lib.hid hb4; clear ha4 hb4) | (refine step_appG fitN _ rfl (.tmp 18) (.tmp 25) rfl W.heap.size (.slice (some ⟨G4, 0, none⟩) _ c4) l rfl ?_ _ [(next, who, what, fault)] rfl ?_ ?_ ?_ ?_; (focus (first | exact O4.out | exact ownG_alloc O4.out _ | exact ownG_alloc (ownG_alloc O4.out _) _)); (focus (refine slG_one ?_ ?_; (focus (first | omega | (simp; done) | (simp; omega))); (focus (intro j u hu; rcases j with _ | _ | _ | _ | j <;> simp [EN] at hu <;> subst hu <;> go_simp)))); (focus (first | omega | (simp; done) | (simp; omega))); (focus (first | omega | (simp; done) | (simp; omega))); rintro v5 w5 ha5 hb5; obtain ⟨rc5, rf5, hz5, G5, c5, rfl, hG5, hL5⟩ := appG_rules ha5; (try simp at hz5); (try simp at hG5); have O5 := Lib.hid ha5.1; have HB5 := Lib.hid hb5; clear ha5 hb5))
      all_goals
        have HO := O5.out
        rw [List.length_append, List.length_singleton] at HO
        go_wp2_with fail
        go_meet
        refine ⟨_, G5, c5, rfl, ?_, ?_, ?_, ?_, ?_, ?_, ?_, ?_, ?_⟩
        · first | (go_simp; done) | (simp [go_sem]; done)
        · first | (go_simp; done) | (simp [go_sem]; done)
        · first | (go_simp; done) | (simp [go_sem]; done)
        · first | (go_simp; done) | (simp [go_sem]; done)
        · (first | omega | (simp; done) | (simp; omega))
        · (first | omega | (simp; done) | (simp; omega))
        · omega
        · repeat (first | exact HO | refine ownG_alloc ?_ _ | refine ownG_setCell ?_ ?_ | (focus omega))
        · repeat (first | exact Below.refl _ _ | refine Below.setCell ?_ (by (first | omega | (simp; done) | (simp; omega))) _ | refine Below.alloc ?_ (by (first | omega | (simp; done) | (simp; omega))) _ | refine Below.drew ?_ | refine Below.step HB5.out (Nat.le_refl _) ?_ | refine Below.step HB4.out (Nat.le_refl _) ?_)
    case rest =>
      obtain ⟨g, G, c, rfl, y0, y1, z0, z1, hg1, hg2, hGg, hO, hB⟩ := hcut
      have q0' := (hB.cell (p := ⟨w.heap.size, 0, none⟩) (show w.heap.size < W.heap.size by omega)).trans q0
      have q1' := (hB.cell (p := ⟨w.heap.size, 1, none⟩) (show w.heap.size < W.heap.size by omega)).trans q1
      have r0' := (hB.cell (p := ⟨w.heap.size + 1, 0, none⟩) (show w.heap.size + 1 < W.heap.size by omega)).trans r0
      have r1' := (hB.cell (p := ⟨w.heap.size + 1, 1, none⟩) (show w.heap.size + 1 < W.heap.size by omega)).trans r1
      have f0' := (hB.frozen (p := ⟨w.heap.size + 1, 0, none⟩) (show w.heap.size + 1 < W.heap.size by omega)).trans f0
      have f1' := (hB.frozen (p := ⟨w.heap.size + 1, 1, none⟩) (show w.heap.size + 1 < W.heap.size by omega)).trans f1
      have hcw : Below w.heap.size w wc := Below.step hB (by omega) HbW.out
      have hRF : RowF EN W.heap.size wc (.slice (some ⟨G, 0, none⟩) (l.length + 1) c) (l ++ [(next, who, what, fault)]) := rowF_own hO
      have hHc := HW.out.below hB
      have hGlt : W.heap.size ≤ G ∧ G < wc.heap.size := hO.lt G rfl
      have hcc : l.length + 1 ≤ c ∧ c ≤ 9223372036854775807 := by have := (rowF_sl hRF).caps; rw [List.length_append, List.length_singleton] at this; exact this
      have HRF := Lib.hid hRF
      have HBw := Lib.hid hB
      have Hcw := Lib.hid hcw
      obtain ⟨hG1, hG2⟩ := hGlt
      obtain ⟨hcc1, hcc2⟩ := hcc
      clear q0 q1 r0 r1 f0 f1 hO hB hcw hRF hHc HbW
      by_cases h10 : 10 < l.length + 1
      · have ha10 : addL next l who what fault = (l ++ [(next, who, what, fault)]).drop 1 := by unfold addL; rw [if_pos h10]
        have h10' : (10 : Int) < (l.length : Int) + 1 := by omega
        have hc1' : (1 : Int) ≤ (c : Int) := by omega
        have hl1' : (1 : Int) ≤ (l.length : Int) + 1 := by omega
        have hcne : ¬ (c : Int) = 1 := by omega
        go_wp2_with fail
        have hRo : RowF EN W.heap.size (wc.setCell ⟨g, 0, none⟩ (.slice (some ⟨G, 4, none⟩) l.length (c - 1))) (.slice (some ⟨G, 4, none⟩) l.length (c - 1)) (addL next l who what fault) := by
          rw [ha10]
          have := rowF_drop (k := 1) HRF.out (by simp)
          rw [List.length_append, List.length_singleton] at this
          exact rowF_setCell this (fun j hj => by cases hj; exact hGg)
        have htx : Txt (addL next l who what fault) := by rw [ha10]; exact txt_drop hx2 1
        have hlen : (addL next l who what fault).length ≤ 1048576 := by rw [ha10]; simp; omega
        have hgs : g < (wc.setCell ⟨g, 0, none⟩ (.slice (some ⟨G, 4, none⟩) l.length (c - 1))).heap.size := by rw [size_setCell]; exact hg2
        have HRo := Lib.hid hRo
        refine (h2 _ _ _ _ (rowF_sl hRo) hlen htx).mono ?_
        rintro e w6 ⟨rfl, hb6⟩
        clear htx hlen hRo ha10
        obtain ⟨d6, os6, rfl⟩ := ext_of_below hb6
        clear hb6
        cases ha2 : audB (next + 1) (addL next l who what fault)
        · have hr : addF next l who what fault = (l, next, false) := by unfold addF; rw [ha, ha2]; rfl
          have Hr := Lib.hid hr
          clear hr
          go_wp2
          go_region_held3 (fun w' => w'.cell? ⟨w.heap.size, 0, none⟩ = some (.slice A l.length cap) ∧ w'.cell? ⟨w.heap.size, 1, none⟩ = some (.int .i64 next)) (first | (go_simp; done) | fail) (first | (refine step_appG fitN _ rfl (.tmp 42) (.tmp 44) rfl (wc.heap.size + os6.size) (.slice (some ⟨_, 0, none⟩) 0 0) [] rfl ?_ _ l rfl ?_ ?_ ?_ ?_; (focus (first | (refine ownG_empty _ ?_ ?_ <;> (first | omega | (simp; done) | (simp; omega)); done) | (refine ownG_alloc (ownG_empty _ ?_ ?_) _ <;> (first | omega | (simp; done) | (simp; omega)); done) | (refine ownG_alloc (ownG_alloc (ownG_empty _ ?_ ?_) _) _ <;> (first | omega | (simp; done) | (simp; omega)); done))); (focus (refine HW.out.below ?_; repeat (first | exact HBw.out | refine Below.ext ?_ (by (first | omega | (simp; done) | (simp; omega))) | refine Below.setCell ?_ (by (first | omega | (simp; done) | (simp; omega))) _ | refine Below.alloc ?_ (by (first | omega | (simp; done) | (simp; omega))) _ | refine Below.drew ?_))); (focus (first | omega | (simp; done) | (simp; omega))); (focus (first | omega | (simp; done) | (simp; omega))); rintro v7 w7 ha7 hb7; obtain ⟨rc7, rf7, hz7, G7, c7, rfl, hG7, hL7⟩ := appG_rules ha7; (try simp at hz7); (try simp at hG7); have O7 := Lib.hid ha7.1; have HB7 := Lib.hid hb7; clear ha7 hb7))
          go_wp2
          simp [bodyPost, results, Try.results27, go_sem, *]
          exact ⟨_, by rw [Hr.out], by rw [Hr.out]; exact rowF_mono (rowF_setCell (rowF_setCell (rowF_own O7.out) (fun j hj => by cases hj; show G7 ≠ _; omega)) (fun j hj => by cases hj; show G7 ≠ _; omega)) (by first | omega | (simp; done) | (simp; omega)), (by repeat (first | exact Hcw.out | refine Below.ext ?_ (by first | omega | (simp; done) | (simp; omega)) | refine Below.setCell ?_ (by first | omega | (simp; done) | (simp; omega)) _ | refine Below.alloc ?_ (by first | omega | (simp; done) | (simp; omega)) _ | refine Below.drew ?_ | refine Below.step HB7.out (by first | omega | (simp; done) | (simp; omega)) ?_))⟩
        · have hr : addF next l who what fault = (addL next l who what fault, next + 1, true) := by unfold addF; rw [ha, ha2]; rfl
          have Hr := Lib.hid hr
          clear hr
          go_wp2
          simp [bodyPost, results, Try.results27, go_sem, *]
          exact ⟨_, by rw [Hr.out], by rw [Hr.out]; exact rowF_mono (rowF_below (rowF_setCell (rowF_setCell HRo.out (fun j hj => by cases hj; show G ≠ _; omega)) (fun j hj => by cases hj; show G ≠ _; omega)) (below_ext _ _ _)) (by omega), (by repeat (first | exact Hcw.out | refine Below.ext ?_ (by first | omega | (simp; done) | (simp; omega)) | refine Below.setCell ?_ (by first | omega | (simp; done) | (simp; omega)) _))⟩
      · have ha10 : addL next l who what fault = l ++ [(next, who, what, fault)] := by unfold addL; rw [if_neg h10]
        have h10' : ¬ (10 : Int) < (l.length : Int) + 1 := by omega
        go_wp2_with fail
        have hRo : RowF EN W.heap.size wc (.slice (some ⟨G, 0, none⟩) (l.length + 1) c) (addL next l who what fault) := by
          rw [ha10]; exact HRF.out
        have htx : Txt (addL next l who what fault) := by rw [ha10]; exact hx2
        have hlen : (addL next l who what fault).length ≤ 1048576 := by rw [ha10]; simp; omega
        have HRo := Lib.hid hRo
        refine (h2 _ _ _ _ (rowF_sl hRo) hlen htx).mono ?_
        rintro e w6 ⟨rfl, hb6⟩
        clear htx hlen hRo ha10
        obtain ⟨d6, os6, rfl⟩ := ext_of_below hb6
        clear hb6
        cases ha2 : audB (next + 1) (addL next l who what fault)
        · have hr : addF next l who what fault = (l, next, false) := by unfold addF; rw [ha, ha2]; rfl
          have Hr := Lib.hid hr
          clear hr
          go_wp2
          go_region_held3 (fun w' => w'.cell? ⟨w.heap.size, 0, none⟩ = some (.slice A l.length cap) ∧ w'.cell? ⟨w.heap.size, 1, none⟩ = some (.int .i64 next)) (first | (go_simp; done) | fail) (first | (refine step_appG fitN _ rfl (.tmp 42) (.tmp 44) rfl (wc.heap.size + os6.size) (.slice (some ⟨_, 0, none⟩) 0 0) [] rfl ?_ _ l rfl ?_ ?_ ?_ ?_; (focus (first | (refine ownG_empty _ ?_ ?_ <;> (first | omega | (simp; done) | (simp; omega)); done) | (refine ownG_alloc (ownG_empty _ ?_ ?_) _ <;> (first | omega | (simp; done) | (simp; omega)); done) | (refine ownG_alloc (ownG_alloc (ownG_empty _ ?_ ?_) _) _ <;> (first | omega | (simp; done) | (simp; omega)); done))); (focus (refine HW.out.below ?_; repeat (first | exact HBw.out | refine Below.ext ?_ (by (first | omega | (simp; done) | (simp; omega))) | refine Below.setCell ?_ (by (first | omega | (simp; done) | (simp; omega))) _ | refine Below.alloc ?_ (by (first | omega | (simp; done) | (simp; omega))) _ | refine Below.drew ?_))); (focus (first | omega | (simp; done) | (simp; omega))); (focus (first | omega | (simp; done) | (simp; omega))); rintro v7 w7 ha7 hb7; obtain ⟨rc7, rf7, hz7, G7, c7, rfl, hG7, hL7⟩ := appG_rules ha7; (try simp at hz7); (try simp at hG7); have O7 := Lib.hid ha7.1; have HB7 := Lib.hid hb7; clear ha7 hb7))
          go_wp2
          simp [bodyPost, results, Try.results27, go_sem, *]
          exact ⟨_, by rw [Hr.out], by rw [Hr.out]; exact rowF_mono (rowF_setCell (rowF_setCell (rowF_own O7.out) (fun j hj => by cases hj; show G7 ≠ _; omega)) (fun j hj => by cases hj; show G7 ≠ _; omega)) (by first | omega | (simp; done) | (simp; omega)), (by repeat (first | exact Hcw.out | refine Below.ext ?_ (by first | omega | (simp; done) | (simp; omega)) | refine Below.setCell ?_ (by first | omega | (simp; done) | (simp; omega)) _ | refine Below.alloc ?_ (by first | omega | (simp; done) | (simp; omega)) _ | refine Below.drew ?_ | refine Below.step HB7.out (by first | omega | (simp; done) | (simp; omega)) ?_))⟩
        · have hr : addF next l who what fault = (addL next l who what fault, next + 1, true) := by unfold addF; rw [ha, ha2]; rfl
          have Hr := Lib.hid hr
          clear hr
          go_wp2
          simp [bodyPost, results, Try.results27, go_sem, *]
          exact ⟨_, by rw [Hr.out], by rw [Hr.out]; exact rowF_mono (rowF_below (rowF_setCell (rowF_setCell HRo.out (fun j hj => by cases hj; show G ≠ _; omega)) (fun j hj => by cases hj; show G ≠ _; omega)) (below_ext _ _ _)) (by omega), (by repeat (first | exact Hcw.out | refine Below.ext ?_ (by first | omega | (simp; done) | (simp; omega)) | refine Below.setCell ?_ (by first | omega | (simp; done) | (simp; omega)) _))⟩
end Go.Proofs.Ytlanbgpmmlnehaa
