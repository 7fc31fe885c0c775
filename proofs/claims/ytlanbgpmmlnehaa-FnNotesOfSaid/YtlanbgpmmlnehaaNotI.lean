/- NotesOf of the package. -/
import Derived.Test.YtlanbgpmmlnehaaNotS
set_option linter.unusedSimpArgs false
set_option linter.unusedVariables false
set_option linter.unusedSectionVars false
namespace Go.Proofs.Ytlanbgpmmlnehaa
open Go.RowKit

set_option maxHeartbeats 1000000 in
theorem notePred_of (x : T4) (who : Int) (f : Bool) (p q : Nat) (w : World) (hp : w.cell? ⟨p, 0, none⟩ = some (.int .i64 who)) (hq : w.cell? ⟨q, 0, none⟩ = some (.bool f)) (hps : p < w.heap.size) (hqs : q < w.heap.size) :
    Calls Try.prog 59 #[.agg #[.int .i64 x.1, .int .i64 x.2.1, .string x.2.2.1, .int .i64 x.2.2.2], .pointer (some ⟨p, 0, none⟩), .pointer (some ⟨q, 0, none⟩)] w fun e w' => e = .returned (.bool (!keepN who f x)) ∧ Below w.heap.size w w' := by
  by_cases e1 : who = -1
  · subst e1
    cases f
    · go_enter Try.func59, Try.ntmps59
      go_wp2
      go_ret
      exact ⟨by (unfold keepN; first | (simp [*]; done) | (simp_all; done) | (cases hz : (x.2.2.2 == 0) <;> simp_all [bne]; done)), (by (repeat (first | exact Below.refl _ _ | exact Hbl.out | refine Below.ext ?_ (by first | omega | (simp; omega) | simp) | refine Below.setCell ?_ (by first | omega | (simp; omega) | simp) _ | refine Below.alloc ?_ (by first | omega | (simp; omega) | simp) _ | refine Below.drew ?_ | refine below_drewN ?_ _ | refine Below.step (by assumption) (by first | omega | (simp; omega) | simp) ?_)))⟩
    · by_cases e3 : x.2.2.2 = 0
      all_goals
        go_enter Try.func59, Try.ntmps59
        go_wp2
        go_ret
        exact ⟨by (unfold keepN; first | (simp [*]; done) | (simp_all; done) | (cases hz : (x.2.2.2 == 0) <;> simp_all [bne]; done)), (by (repeat (first | exact Below.refl _ _ | exact Hbl.out | refine Below.ext ?_ (by first | omega | (simp; omega) | simp) | refine Below.setCell ?_ (by first | omega | (simp; omega) | simp) _ | refine Below.alloc ?_ (by first | omega | (simp; omega) | simp) _ | refine Below.drew ?_ | refine below_drewN ?_ _ | refine Below.step (by assumption) (by first | omega | (simp; omega) | simp) ?_)))⟩
  · by_cases e2 : x.2.1 = who
    · cases f
      · go_enter Try.func59, Try.ntmps59
        go_wp2
        go_ret
        exact ⟨by (unfold keepN; first | (simp [*]; done) | (simp_all; done) | (cases hz : (x.2.2.2 == 0) <;> simp_all [bne]; done)), (by (repeat (first | exact Below.refl _ _ | exact Hbl.out | refine Below.ext ?_ (by first | omega | (simp; omega) | simp) | refine Below.setCell ?_ (by first | omega | (simp; omega) | simp) _ | refine Below.alloc ?_ (by first | omega | (simp; omega) | simp) _ | refine Below.drew ?_ | refine below_drewN ?_ _ | refine Below.step (by assumption) (by first | omega | (simp; omega) | simp) ?_)))⟩
      · by_cases e3 : x.2.2.2 = 0
        all_goals
          go_enter Try.func59, Try.ntmps59
          go_wp2
          go_ret
          exact ⟨by (unfold keepN; first | (simp [*]; done) | (simp_all; done) | (cases hz : (x.2.2.2 == 0) <;> simp_all [bne]; done)), (by (repeat (first | exact Below.refl _ _ | exact Hbl.out | refine Below.ext ?_ (by first | omega | (simp; omega) | simp) | refine Below.setCell ?_ (by first | omega | (simp; omega) | simp) _ | refine Below.alloc ?_ (by first | omega | (simp; omega) | simp) _ | refine Below.drew ?_ | refine below_drewN ?_ _ | refine Below.step (by assumption) (by first | omega | (simp; omega) | simp) ?_)))⟩
    · go_enter Try.func59, Try.ntmps59
      go_wp2
      go_ret
      exact ⟨by (unfold keepN; first | (simp [*]; done) | (simp_all; done) | (cases hz : (x.2.2.2 == 0) <;> simp_all [bne]; done)), (by (repeat (first | exact Below.refl _ _ | exact Hbl.out | refine Below.ext ?_ (by first | omega | (simp; omega) | simp) | refine Below.setCell ?_ (by first | omega | (simp; omega) | simp) _ | refine Below.alloc ?_ (by first | omega | (simp; omega) | simp) _ | refine Below.drew ?_ | refine below_drewN ?_ _ | refine Below.step (by assumption) (by first | omega | (simp; omega) | simp) ?_)))⟩
set_option maxHeartbeats 2000000 in
/-- IndexFunc with that closure: the first note that is not kept. -/
theorem notesIndex (v : Value) (l : List T4) (who : Int) (f : Bool) (p q : Nat) (w : World) (h : SlG EN w v l) (hl : l.length ≤ 1000) (hp : w.cell? ⟨p, 0, none⟩ = some (.int .i64 who)) (hq : w.cell? ⟨q, 0, none⟩ = some (.bool f)) (hps : p < w.heap.size) (hqs : q < w.heap.size) :
    Calls Try.prog 66 #[v, .func (.func 59) #[] #[.pointer (some ⟨p, 0, none⟩), .pointer (some ⟨q, 0, none⟩)]] w fun e w' => (∃ r : Int, e = .returned (.int .i64 r) ∧ ((r = -1 ∧ ∀ j, j < l.length → keepN who f (nt l j) = true) ∨ ∃ k : Nat, r = (k : Int) ∧ k < l.length ∧ keepN who f (nt l k) = false ∧ ∀ j, j < k → keepN who f (nt l j) = true)) ∧ Below w.heap.size w w' := by
  obtain ⟨A, cap, rfl⟩ := h.shape
  have hcap := h.caps
  have hc2 := hcap.2
  have H := Lib.hid h
  clear h hcap
  go_enter Try.func66, Try.ntmps66
  go_wp2
  go_loopw [8, 5] (fun i _ wr => ∃ k : Nat, k ≤ l.length ∧ i = .int .i64 k ∧ (∀ j, j < k → keepN who f (nt l j) = true) ∧ Below w.heap.size w wr) (fun i _ _ => l.length - (intOf i).toNat)
  case atStart => exact ⟨0, Nat.zero_le _, rfl, fun j hj => absurd hj (by omega), Below.refl _ _⟩
  case round =>
    obtain ⟨k, hk, rfl, hall, hbl⟩ := hrel
    have Hall := Lib.hid hall; clear hall
    by_cases hlt : k < l.length
    · have hxk : l[k]? = some (nt l k) := by unfold nt; simp [hlt]
      have hS := H.out.below hbl
      obtain ⟨b, off, rfl, hb, hat⟩ := hS.at_ hxk
      have c0 : wr.cell? ⟨b, off + k * 4, none⟩ = some (.int .i64 (nt l k).1) := hat 0 _ rfl
      have c1 : wr.cell? ⟨b, off + k * 4 + 1, none⟩ = some (.int .i64 (nt l k).2.1) := hat 1 _ rfl
      have c2 : wr.cell? ⟨b, off + k * 4 + 2, none⟩ = some (.string (nt l k).2.2.1) := hat 2 _ rfl
      have c3 : wr.cell? ⟨b, off + k * 4 + 3, none⟩ = some (.int .i64 (nt l k).2.2.2) := hat 3 _ rfl
      have p0 := (hbl.cell (p := ⟨p, 0, none⟩) hps).trans hp
      have q0 := (hbl.cell (p := ⟨q, 0, none⟩) hqs).trans hq
      have hz := hbl.size
      have Hbl := Lib.hid hbl
      clear hbl hat hxk hS
      cases ek : keepN who f (nt l k)
      · go_wp2_with (go_at_call 59; refine (notePred_of (nt l k) who f p q _ p0 q0 (by omega) (by omega)).mono ?_; rintro e w1 ⟨rfl, hb1⟩; rw [ek]; have HB1 := Lib.hid hb1; clear hb1)
        go_ret
        exact ⟨⟨_, rfl, .inr ⟨k, rfl, hlt, ek, Hall.out⟩⟩, Below.step HB1.out (by omega) Hbl.out⟩
      · go_wp2_with (go_at_call 59; refine (notePred_of (nt l k) who f p q _ p0 q0 (by omega) (by omega)).mono ?_; rintro e w1 ⟨rfl, hb1⟩; rw [ek]; have HB1 := Lib.hid hb1; clear hb1)
        go_roundw
        case rel => exact ⟨k + 1, by omega, by go_num, fun j hj => by
          by_cases e : j = k
          · subst e; exact ek
          · exact Hall.out j (by omega), Below.step HB1.out (by omega) Hbl.out⟩
        case measure => simp [intOf]; omega
    · have hk' : k = l.length := by omega
      subst hk'
      have Hbl := Lib.hid hbl
      clear hbl
      go_wp2
      go_ret
      exact ⟨⟨_, rfl, .inl ⟨rfl, Hall.out⟩⟩, Hbl.out⟩
end Go.Proofs.Ytlanbgpmmlnehaa
