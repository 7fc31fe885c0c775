/- Rows: an element is written anew. -/
import Derived.Test.YtlanbgpmmlnehaaNotI
set_option linter.unusedSimpArgs false
set_option linter.unusedVariables false
set_option linter.unusedSectionVars false
namespace Go.Proofs.Ytlanbgpmmlnehaa
open Go.RowKit

theorem rowF_set {α : Type} {E : Lay α} {w : World} {l : List α} {B b off n cap i : Nat} (h : RowF E B w (.slice (some ⟨b, off, none⟩) n cap) l) (x : α) (hi : i < l.length) : RowF E B (w.setCells b (off + i * E.z) (E.put x)) (.slice (some ⟨b, off, none⟩) n cap) (l.set i x) := by
  obtain ⟨A', cap', e, h1, h2, h3⟩ := h
  injection e with e1 e2 e3
  subst e1 e2 e3
  rcases h3 with ⟨e, _⟩ | ⟨b', off', e, hB, hlt, hat, hw⟩
  · cases e
  · cases e
    have hle : (i + 1) * E.z ≤ cap * E.z := Nat.mul_le_mul_right _ (by omega)
    rw [Nat.add_mul] at hle
    have hin : ∀ k, k < (E.put x).length → (w.cell? ⟨b, off + i * E.z + k, none⟩).isSome = true := fun k hk => by
      rw [E.len x] at hk
      have := (hw (i * E.z + k) (by omega)).1
      rw [← Nat.add_assoc] at this; exact this
    refine ⟨_, cap, by rw [List.length_set], by rw [List.length_set]; exact h1, h2, .inr ⟨b, off, rfl, hB, ?_, fun k y hy c u hu => ?_, fun k hk => ?_⟩⟩
    · have hs := (below_setCells (B := 0) (a := w) (Nat.zero_le b) (E.put x) (off + i * E.z) w (Below.refl _ _)).size
      omega
    · have hc : c < E.z := by rw [← E.len y]; exact (List.getElem?_eq_some_iff.1 hu).1
      by_cases hk : k = i
      · subst hk
        rw [List.getElem?_set_self hi] at hy
        injection hy with hy
        subst hy
        obtain ⟨hul, hue⟩ := List.getElem?_eq_some_iff.1 hu
        rw [World.cell?_setCells_in b _ _ _ hin _ hul, hue]
      · rw [List.getElem?_set_ne (fun e => hk e.symm)] at hy
        rw [World.cell?_setCells_out b _ _ _ _ (fun _ _ => by
          show off + k * E.z + c < off + i * E.z ∨ off + i * E.z + (E.put x).length ≤ off + k * E.z + c
          rw [E.len x]
          rcases Nat.lt_or_gt_of_ne hk with h | h
          · have : (k + 1) * E.z ≤ i * E.z := Nat.mul_le_mul_right _ h
            rw [Nat.add_mul] at this; left; omega
          · have : (i + 1) * E.z ≤ k * E.z := Nat.mul_le_mul_right _ h
            rw [Nat.add_mul] at this; right; omega)]
        exact hat k y hy c u hu
    · obtain ⟨k1, k2⟩ := hw k hk
      exact ⟨World.isSome_setCells b _ _ _ _ k1, by rw [World.frozen?_setCells]; exact k2⟩
theorem take_set {α : Type} (L : List α) (m : Nat) (x : α) (h : m < L.length) : (L.set m x).take (m + 1) = L.take m ++ [x] := by
  rw [List.take_add_one, List.getElem?_set_self h, List.take_set_of_le (Nat.le_refl _)]; rfl
theorem rowF_spot {α : Type} {E : Lay α} {w : World} {l : List α} {B b off n cap j : Nat} (h : RowF E B w (.slice (some ⟨b, off, none⟩) n cap) l) (hj : j < n * E.z) : (∃ u, w.cell? ⟨b, off + j, none⟩ = some u) ∧ w.frozen? ⟨b, off + j, none⟩ = false := by
  obtain ⟨A', cap', e, h1, h2, h3⟩ := h
  injection e with e1 e2 e3
  subst e1 e2 e3
  rcases h3 with ⟨e, _⟩ | ⟨b', off', e, hB, hlt, hat, hw⟩
  · cases e
  · cases e
    have : l.length * E.z ≤ cap * E.z := Nat.mul_le_mul_right _ h1
    obtain ⟨k1, k2⟩ := hw j (by omega)
    exact ⟨Option.isSome_iff_exists.1 k1, k2⟩
/-- The first k elements alone. -/
theorem rowF_cut {α : Type} {E : Lay α} {w : World} {l : List α} {B b off n cap k : Nat} (h : RowF E B w (.slice (some ⟨b, off, none⟩) n cap) l) (hk : k ≤ l.length) : RowF E B w (.slice (some ⟨b, off, none⟩) k cap) (l.take k) := by
  obtain ⟨A', cap', e, h1, h2, h3⟩ := h
  injection e with e1 e2 e3
  subst e1 e2 e3
  rcases h3 with ⟨e, _⟩ | ⟨b', off', e, hB, hlt, hat, hw⟩
  · cases e
  · cases e
    have hl : (l.take k).length = k := by rw [List.length_take]; omega
    refine ⟨_, cap, by rw [hl], by rw [hl]; omega, h2, .inr ⟨b, off, rfl, hB, hlt, fun i x hx j u hu => ?_, hw⟩⟩
    have hi : i < k := by have := (List.getElem?_eq_some_iff.1 hx).1; omega
    rw [List.getElem?_take_of_lt hi] at hx
    exact hat i x hx j u hu
set_option maxRecDepth 100000 in
set_option maxHeartbeats 4000000 in
/-- slices.DeleteFunc on notes with that closure. -/
theorem notesDel (v : Value) (l : List T4) (who : Int) (f : Bool) (p q B : Nat) (w : World) (h : RowF EN B w v l) (hl : l.length ≤ 1000) (hp : w.cell? ⟨p, 0, none⟩ = some (.int .i64 who)) (hq : w.cell? ⟨q, 0, none⟩ = some (.bool f)) (hps : p < B) (hqs : q < B) (hB : B ≤ w.heap.size) :
    Calls Try.prog 58 #[v, .func (.func 59) #[] #[.pointer (some ⟨p, 0, none⟩), .pointer (some ⟨q, 0, none⟩)]] w fun e w' => ∃ v', e = .returned v' ∧ RowF EN B w' v' (l.filter (keepN who f)) ∧ Below B w w' := by
  obtain ⟨A, cap, rfl⟩ := rowF_shape h
  have hcap := (rowF_sl h).caps
  have hc1 := hcap.1
  have hc2 := hcap.2
  have H := Lib.hid h
  clear h hcap
  go_enter Try.func58, Try.ntmps58
  go_wp2_with fail
  refine (notesIndex _ l who f p q _ (rowF_sl H.out) hl hp hq (by omega) (by omega)).mono ?_
  rintro e w1 ⟨⟨r, rfl, hr⟩, hb1⟩
  have HB1 := Lib.hid hb1
  rcases hr with ⟨rfl, hall⟩ | ⟨k0, rfl, hk0, hno, hbe⟩
  · have hf : l.filter (keepN who f) = l := by
      rw [List.filter_eq_self]
      intro x hx
      obtain ⟨j, hj, rfl⟩ := List.getElem_of_mem hx
      have := hall j hj
      unfold nt at this
      simpa [hj] using this
    have Hf := Lib.hid hf
    clear hf hall hb1
    go_wp2
    go_ret
    exact ⟨_, rfl, by rw [Hf.out]; exact rowF_below H.out HB1.out, Below.mono HB1.out hB⟩
  · obtain ⟨b, off, rfl⟩ : ∃ b off, A = some ⟨b, off, none⟩ := by
      obtain ⟨A', c', e, _, _, h3⟩ := H.out
      injection e with e1 _ _
      rcases h3 with ⟨_, hx, _⟩ | ⟨b, off, e2, _⟩
      · subst hx; simp at hk0
      · exact ⟨b, off, e1.trans e2⟩
    have hBb : B ≤ b := by
      obtain ⟨A', c', e, _, _, h3⟩ := H.out
      injection e with e1 _ _
      rcases h3 with ⟨e2, _⟩ | ⟨b', off', e2, hB', _⟩
      · subst e2; cases e1
      · subst e2; cases e1; exact hB'
    have Hno := Lib.hid hno
    have Hbe := Lib.hid hbe
    clear hno hbe hb1
    go_wp2
    go_loopw [5, 6, 7] (fun j i _ wr => ∃ (k m : Nat) (L : List T4), k ≤ l.length ∧ i = .int .i64 k ∧ j = .int .i64 m ∧ m < k ∧ L.length = l.length ∧ L.take m = (l.take k).filter (keepN who f) ∧ L.drop k = l.drop k ∧ RowF EN B wr (.slice (some ⟨b, off, none⟩) l.length cap) L ∧ Below B w wr) (fun _ i _ _ => l.length - (intOf i).toNat)
    case atStart =>
      refine ⟨k0 + 1, k0, l, hk0, by go_num, rfl, by omega, rfl, ?_, rfl, rowF_below H.out HB1.out, Below.mono HB1.out hB⟩
      rw [keep_succ hk0, Hno.out, if_neg (by simp)]
      refine (List.filter_eq_self.2 fun x hx => ?_).symm
      obtain ⟨j, hj, rfl⟩ := List.getElem_of_mem hx
      rw [List.length_take] at hj
      have := Hbe.out j (by omega)
      unfold nt at this
      rw [List.getElem_take]
      simpa [show j < l.length by omega] using this
    case round =>
      obtain ⟨k, m, L, hk, rfl, rfl, hmk, hLl, hLt, hLd, hrow, hbl⟩ := hrel
      have Hrow := Lib.hid hrow
      have Hbl := Lib.hid hbl
      have HLt := Lib.hid hLt
      have HLd := Lib.hid hLd
      have HLl := Lib.hid hLl
      have p0 := (hbl.cell (p := ⟨p, 0, none⟩) hps).trans hp
      have q0 := (hbl.cell (p := ⟨q, 0, none⟩) hqs).trans hq
      have hz := hbl.size
      clear hbl hrow hLt hLd hLl
      by_cases hlt : k < l.length
      · have hxk : L[k]? = some (nt l k) := by
          have := congrArg (fun z => z[0]?) HLd.out
          simp only [List.getElem?_drop, Nat.add_zero] at this
          rw [this]; unfold nt; simp [hlt]
        obtain ⟨b', off', e, hb, hat⟩ := (rowF_sl Hrow.out).at_ hxk
        cases e
        have c0 : wr.cell? ⟨b, off + k * 4, none⟩ = some (.int .i64 (nt l k).1) := hat 0 _ rfl
        have c1 : wr.cell? ⟨b, off + k * 4 + 1, none⟩ = some (.int .i64 (nt l k).2.1) := hat 1 _ rfl
        have c2 : wr.cell? ⟨b, off + k * 4 + 2, none⟩ = some (.string (nt l k).2.2.1) := hat 2 _ rfl
        have c3 : wr.cell? ⟨b, off + k * 4 + 3, none⟩ = some (.int .i64 (nt l k).2.2.2) := hat 3 _ rfl
        clear hat hxk
        have hm1 : ((m : Int) < (l.length : Int)) := by omega
        have hzs := fun c (hc : c < 4) => rowF_spot (j := m * 4 + c) Hrow.out (by show _ < l.length * 4; omega)
        obtain ⟨⟨z0, r0⟩, f0⟩ := hzs 0 (by decide)
        obtain ⟨⟨z1, r1⟩, f1⟩ := hzs 1 (by decide)
        obtain ⟨⟨z2, r2⟩, f2⟩ := hzs 2 (by decide)
        obtain ⟨⟨z3, r3⟩, f3⟩ := hzs 3 (by decide)
        rw [← Nat.add_assoc] at r0 f0 r1 f1 r2 f2 r3 f3
        rw [Nat.add_zero] at r0 f0
        clear hzs
        go_wp2_with fail
        refine (notePred_of (nt l k) who f p q _ (by go_simp) (by go_simp) (by simp; omega) (by simp; omega)).mono ?_
        rintro e w2 ⟨rfl, hb2⟩
        obtain ⟨d2, os2, rfl⟩ := ext_of_below hb2
        clear hb2
        cases ek : keepN who f (nt l k)
        · go_wp2
          go_roundw
          case rel =>
            (repeat apply Exists.intro)
            refine ⟨?_, rfl⟩
            exact ⟨k + 1, m, L, by omega, by go_num, rfl, by omega, HLl.out, by rw [keep_succ hlt, ek, if_neg (by simp)]; exact HLt.out, by rw [← List.drop_drop, HLd.out, List.drop_drop], rowF_below Hrow.out (Below.ext (Below.alloc (Below.refl _ _) (Nat.le_refl _) _) (by simp)), Below.ext (Below.alloc Hbl.out (by omega) _) (by simp; omega)⟩
          case measure => simp [intOf]; omega
        · go_wp2
          go_roundw
          case rel =>
            (repeat apply Exists.intro)
            refine ⟨?_, rfl⟩
            refine ⟨k + 1, m + 1, L.set m (nt l k), by omega, by go_num, by go_num, by omega, by rw [List.length_set]; exact HLl.out, ?_, ?_, ?_, ?_⟩
            · rw [keep_succ hlt, ek, if_pos rfl, ← HLt.out]
              exact take_set L m _ (by rw [HLl.out]; omega)
            · rw [List.drop_set_of_lt (by omega), ← List.drop_drop, HLd.out, List.drop_drop]
            · exact rowF_below (rowF_set Hrow.out (nt l k) (i := m) (by rw [HLl.out]; omega)) (Below.ext (Below.alloc (Below.refl _ _) (Nat.le_refl _) _) (Nat.le_trans (Nat.le_of_eq (setCells_keeps _ _ _ _).2) (by simp)))
            · have hbl := Hbl.out
              (repeat (first | exact Below.refl _ _ | exact Hbl.out | refine Below.ext ?_ (by first | omega | (simp; omega) | simp) | refine Below.setCell ?_ (by first | omega | (simp; omega) | simp) _ | refine Below.alloc ?_ (by first | omega | (simp; omega) | simp) _ | refine Below.drew ?_ | refine below_drewN ?_ _ | refine Below.step (by assumption) (by first | omega | (simp; omega) | simp) ?_))
          case measure => simp [intOf]; omega
      · obtain rfl : k = l.length := by omega
        have hLf : L.take m = l.filter (keepN who f) := by have := HLt.out; rw [List.take_length] at this; exact this
        have hnn : 0 < l.length - m := by omega
        have hcl : ∀ ty, (Builtin.clear_ #[37] ty #[.slice (some ⟨b, off + m * 4, none⟩) (l.length - m) (cap - m)]).run Try.prog wr = .ok (.tuple #[]) (wr.setCells b (off + m * 4) (Builtin.zeroCells #[.int .i64 0, .int .i64 0, .string "".toUTF8, .int .i64 0] (l.length - m)).toList) := fun ty =>
          run_clear_cells wr _ 49 ty (.agg #[.int .i64 0, .int .i64 0, .string "".toUTF8, .int .i64 0]) fitN.ht (fun _ => rfl) (by
            intro u hu
            have hu' : u ∈ (#[Value.int .i64 0, .int .i64 0, .string "".toUTF8, .int .i64 0] : Array Value) := hu
            simp at hu'
            rcases hu' with rfl | rfl | rfl | rfl <;> rfl) b (off + m * 4) _ _ hnn
            (fun j hj => by
              have hj' : j < (l.length - m) * 4 := hj
              obtain ⟨⟨u, hu⟩, _⟩ := rowF_spot (j := m * 4 + j) Hrow.out (by show _ < l.length * 4; omega)
              rw [Nat.add_assoc, hu]; rfl)
            (fun j hj => by
              have hj' : j < (l.length - m) * 4 := hj
              rw [Nat.add_assoc]
              exact (rowF_spot (j := m * 4 + j) Hrow.out (by show _ < l.length * 4; omega)).2)
        have hrow2 : RowF EN B (wr.setCells b (off + m * 4) (Builtin.zeroCells #[.int .i64 0, .int .i64 0, .string "".toUTF8, .int .i64 0] (l.length - m)).toList) (.slice (some ⟨b, off, none⟩) m cap) (l.filter (keepN who f)) := by
          have hml : (L.take m).length = m := by rw [List.length_take, HLl.out]; omega
          have h5 := rowF_cut Hrow.out (k := m) (by rw [HLl.out]; omega)
          rw [hLf] at h5
          exact rowF_tail h5 (by rw [← hLf, hml]; exact Nat.le_refl _)
        have hbl2 : Below B w (wr.setCells b (off + m * 4) (Builtin.zeroCells #[.int .i64 0, .int .i64 0, .string "".toUTF8, .int .i64 0] (l.length - m)).toList) := Go.below_setCells hBb _ _ _ Hbl.out
        have Hrow2 := Lib.hid hrow2
        have Hbl2 := Lib.hid hbl2
        have hmc : ¬ m = cap := by omega
        have hmc' : ¬ cap = m := by omega
        clear hLf hrow2 hbl2
        go_wp2
        go_ret
        exact ⟨_, rfl, Hrow2.out, Hbl2.out⟩
end Go.Proofs.Ytlanbgpmmlnehaa
