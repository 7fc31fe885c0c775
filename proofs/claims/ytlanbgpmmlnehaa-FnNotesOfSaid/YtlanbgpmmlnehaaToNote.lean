/- Audits of the law's own type, turned into the program's and held against each other. -/
import Derived.Test.YtlanbgpmmlnehaaRow4
import Derived.Deep.RegionHeld3
set_option linter.unusedSimpArgs false
set_option linter.unusedVariables false
set_option linter.unusedSectionVars false
namespace Go.Proofs.Ytlanbgpmmlnehaa
open Go.RowKit

theorem own4_heap {B : Nat} {w w' : World} {v : Value} {l : List T4} (h : Own4 B w v l) (he : ∀ g, B ≤ g → w'.heap[g]? = w.heap[g]?) : Own4 B w' v l :=
  ⟨h.1, h.2.imp id fun ⟨g, c, cur, e1, e2, e3, e4⟩ => ⟨g, c, cur, e1, e2, (he g e2).trans e3, e4⟩⟩
theorem ext_hi {W : World} {d g : Nat} {os : Array Obj} (h : W.heap.size ≤ g) : (ext W d os).heap[g]? = os[g - W.heap.size]? := by
  simp only [ext, Array.getElem?_append]
  rw [if_neg (by omega)]
theorem toNote_any (a b d : Int) (s : ByteArray) (w : World) : Calls Try.prog 68 #[.agg #[.int .i64 a, .int .i64 b, .string s, .int .i64 d]] w fun e w' => e = .returned (.agg #[.int .i64 a, .int .i64 b, .string s, .int .i64 d]) ∧ Below w.heap.size w w' := by
  go_enter Try.func68, Try.ntmps68
  go_wp2
  refine bodyPost_ret (v := .agg #[.int .i64 a, .int .i64 b, .string s, .int .i64 d]) ?_ rfl ⟨rfl, ?_⟩
  · simp [results, Try.results68, go_sem]
  · (repeat (first | exact Below.refl _ _ | exact Hbl.out | refine Below.ext ?_ (by first | omega | (simp; omega) | simp) | refine Below.setCell ?_ (by first | omega | (simp; omega) | simp) _ | refine Below.alloc ?_ (by first | omega | (simp; omega) | simp) _ | refine Below.drew ?_ | refine below_drewN ?_ _ | refine Below.step (by assumption) (by first | omega | (simp; omega) | simp) ?_))
theorem eqNote_same (a b d : Int) (s : ByteArray) (w : World) : Calls Try.prog 62 #[.agg #[.int .i64 a, .int .i64 b, .string s, .int .i64 d], .agg #[.int .i64 a, .int .i64 b, .string s, .int .i64 d]] w fun e w' => e = .returned (.bool true) ∧ Below w.heap.size w w' := by
  go_enter Try.func62, Try.ntmps62
  go_wp2
  go_ret
  exact ⟨rfl, (by (repeat (first | exact Below.refl _ _ | exact Hbl.out | refine Below.ext ?_ (by first | omega | (simp; omega) | simp) | refine Below.setCell ?_ (by first | omega | (simp; omega) | simp) _ | refine Below.alloc ?_ (by first | omega | (simp; omega) | simp) _ | refine Below.drew ?_ | refine below_drewN ?_ _ | refine Below.step (by assumption) (by first | omega | (simp; omega) | simp) ?_)))⟩

set_option maxHeartbeats 1000000 in
theorem toNoteS_any (A : Option Addr) (cap : Nat) (l : List T4) (w : World) (hn : l.length ≤ cap) (hc : cap ≤ maxLen) (hA : l = [] ∨ ∃ b off, A = some ⟨b, off, none⟩ ∧ b < w.heap.size ∧ At4 w b off l) (hm : l.length ≤ 1048576) :
    Calls Try.prog 61 #[.slice A l.length cap] w fun e w' => e = .returned (.slice (some ⟨w.heap.size, 0, none⟩) l.length l.length) ∧ Own4 w.heap.size w' (.slice (some ⟨w.heap.size, 0, none⟩) l.length l.length) l ∧ Below w.heap.size w w' := by
  unfold maxLen at hc
  obtain ⟨i0, hi, hz0, hz1, hz2⟩ := info_parts infoNote
  have HA := Lib.hid hA; clear hA
  go_enter Try.func61, Try.ntmps61
  go_wp2_with (refine wpList_make_full _ rfl _ _ 37 rfl w.heap.size 49 i0 (.agg #[.int .i64 0, .int .i64 0, .string ByteArray.empty, .int .i64 0]) 4 Try.underlying37 hi hz0 hz1 _ _ _ _ l.length rfl rfl rfl rfl (by rw [hz2]; omega) (by unfold maxLen; omega) (Nat.le_refl _) ?_)
  intro w1 hown hg1
  have hbl : Below w.heap.size w w1 := (Below.refl _ _).grown hg1 (Nat.le_refl _) (by intro k hk; cases hk)
  rw [row4_made l.length] at hown
  have Hown := Lib.hid hown; clear hown
  have Hbl := Lib.hid hbl; clear hbl hg1
  go_wp2
  go_loopw [4] (fun i wr => ∃ k : Nat, k ≤ l.length ∧ i = .int .i64 k ∧ (∃ f, (∀ i, i < k → f i = nt l i) ∧ wr.ownsRow w.heap.size 49 4 (.slice (some ⟨w.heap.size, 0, none⟩) l.length l.length) l.length (row4 l.length f)) ∧ Below w.heap.size w wr) (fun i _ => l.length - (intOf i).toNat)
  case atStart => exact ⟨0, Nat.zero_le _, rfl, ⟨_, fun i hi => absurd hi (by omega), Hown.out⟩, Hbl.out⟩
  case round =>
    obtain ⟨k, hk, rfl, ⟨f, hf, hown⟩, hbl⟩ := hrel
    have Hf := Lib.hid hf; clear hf
    have hsz : w.heap.size < wr.heap.size := (hown.lt w.heap.size rfl).2
    by_cases hlt : k < l.length
    · obtain ⟨b, off, rfl, hb, hcs⟩ := HA.out.resolve_left (fun e => by subst e; simp at hlt)
      have Hcs := Lib.hid hcs; clear hcs
      obtain ⟨c1, c2, c3, c4⟩ := (Hcs.out.below hb hbl) k hlt
      have x0 : wr.cell? ⟨w.heap.size, k * 4, none⟩ = some (.int .i64 (f k).1) := by rw [hown.cellAt _ (by omega), row4_at (by omega), show (k * 4) / 4 = k from by omega, show (k * 4) % 4 = 0 from by omega]; rfl
      have x1 : wr.cell? ⟨w.heap.size, k * 4 + 1, none⟩ = some (.int .i64 (f k).2.1) := by rw [hown.cellAt _ (by omega), row4_at (by omega), show (k * 4 + 1) / 4 = k from by omega, show (k * 4 + 1) % 4 = 1 from by omega]; rfl
      have x2 : wr.cell? ⟨w.heap.size, k * 4 + 2, none⟩ = some (.string (f k).2.2.1) := by rw [hown.cellAt _ (by omega), row4_at (by omega), show (k * 4 + 2) / 4 = k from by omega, show (k * 4 + 2) % 4 = 2 from by omega]; rfl
      have x3 : wr.cell? ⟨w.heap.size, k * 4 + 3, none⟩ = some (.int .i64 (f k).2.2.2) := by rw [hown.cellAt _ (by omega), row4_at (by omega), show (k * 4 + 3) / 4 = k from by omega, show (k * 4 + 3) % 4 = 3 from by omega]; rfl
      have y0 : wr.frozen? ⟨w.heap.size, k * 4, none⟩ = false := hown.frozenAt _
      have y1 : wr.frozen? ⟨w.heap.size, k * 4 + 1, none⟩ = false := hown.frozenAt _
      have y2 : wr.frozen? ⟨w.heap.size, k * 4 + 2, none⟩ = false := hown.frozenAt _
      have y3 : wr.frozen? ⟨w.heap.size, k * 4 + 3, none⟩ = false := hown.frozenAt _
      have Hown := Lib.hid hown; clear hown
      have Hbl := Lib.hid hbl; clear hbl
      go_wp2_with (go_at_call 68; refine (toNote_any _ _ _ _ _).mono ?_; rintro e w' ⟨rfl, hb⟩; obtain ⟨d1, os1, rfl⟩ := ext_of_below hb; clear hb)
      go_roundw
      case rel =>
        have s1 := (Hown.out.stored (k * 4) (.int .i64 (nt l k).1)).1
        have s2 := (s1.stored (k * 4 + 1) (.int .i64 (nt l k).2.1)).1
        have s3 := (s2.stored (k * 4 + 2) (.string (nt l k).2.2.1)).1
        have s4 := (s3.stored (k * 4 + 3) (.int .i64 (nt l k).2.2.2)).1
        rw [row4_set (nt l k) hlt] at s4
        exact ⟨k + 1, by omega, by go_num, ⟨upd4 f k (nt l k), fun i hi => by
          unfold upd4
          by_cases e : i = k
          · rw [if_pos e, e]
          · rw [if_neg e]; exact Hf.out i (by omega), by first | exact own_ext s4 | exact s4⟩, (by (repeat (first | exact Below.refl _ _ | exact Hbl.out | refine Below.ext ?_ (by first | omega | (simp; omega) | simp) | refine Below.setCell ?_ (by first | omega | (simp; omega) | simp) _ | refine Below.alloc ?_ (by first | omega | (simp; omega) | simp) _ | refine Below.drew ?_ | refine below_drewN ?_ _ | refine Below.step (by assumption) (by first | omega | (simp; omega) | simp) ?_)))⟩
      case measure => simp [intOf]; omega
    · have hk' : k = l.length := by omega
      subst hk'
      rw [row4_congr Hf.out] at hown
      have Hown := Lib.hid hown; clear hown
      have Hbl := Lib.hid hbl; clear hbl
      go_wp2
      go_ret
      exact ⟨rfl, Hown.out, Hbl.out⟩

set_option maxHeartbeats 1000000 in
theorem eqNoteS_any (A A' : Option Addr) (cap cap' : Nat) (l : List T4) (w : World) (hn : l.length ≤ cap) (hc : cap ≤ maxLen) (hA : l = [] ∨ ∃ b off, A = some ⟨b, off, none⟩ ∧ b < w.heap.size ∧ At4 w b off l) (hA' : l = [] ∨ ∃ b off, A' = some ⟨b, off, none⟩ ∧ b < w.heap.size ∧ At4 w b off l) :
    Calls Try.prog 34 #[.slice A l.length cap, .slice A' l.length cap'] w fun e w' => e = .returned (.bool true) ∧ Below w.heap.size w w' := by
  unfold maxLen at hc
  have HA := Lib.hid hA; clear hA
  have HA' := Lib.hid hA'; clear hA'
  go_enter Try.func34, Try.ntmps34
  go_wp2
  go_loopw [5] (fun i wr => ∃ k : Nat, k ≤ l.length ∧ i = .int .i64 k ∧ Below w.heap.size w wr) (fun i _ => l.length - (intOf i).toNat)
  case atStart => exact ⟨0, Nat.zero_le _, rfl, Below.refl _ _⟩
  case round =>
    obtain ⟨k, hk, rfl, hbl⟩ := hrel
    have hsz : w.heap.size ≤ wr.heap.size := hbl.size
    by_cases hlt : k < l.length
    · obtain ⟨b, off, rfl, hb, hcs⟩ := HA.out.resolve_left (fun e => by subst e; simp at hlt)
      obtain ⟨b', off', rfl, hb', hcs'⟩ := HA'.out.resolve_left (fun e => by subst e; simp at hlt)
      have Hcs := Lib.hid hcs; clear hcs
      have Hcs' := Lib.hid hcs'; clear hcs'
      obtain ⟨c1, c2, c3, c4⟩ := (Hcs.out.below hb hbl) k hlt
      obtain ⟨d1, d2, d3, d4⟩ := (Hcs'.out.below hb' hbl) k hlt
      have hbr : b < wr.heap.size := by omega
      have hbr' : b' < wr.heap.size := by omega
      have Hbl := Lib.hid hbl; clear hbl
      go_wp2
      go_region_held3 (fun w' => w'.cell? ⟨b, off + k * 4, none⟩ = some (.int .i64 (nt l k).1) ∧ w'.cell? ⟨b, off + k * 4 + 1, none⟩ = some (.int .i64 (nt l k).2.1) ∧ w'.cell? ⟨b, off + k * 4 + 2, none⟩ = some (.string (nt l k).2.2.1) ∧ w'.cell? ⟨b, off + k * 4 + 3, none⟩ = some (.int .i64 (nt l k).2.2.2) ∧ w'.cell? ⟨b', off' + k * 4, none⟩ = some (.int .i64 (nt l k).1) ∧ w'.cell? ⟨b', off' + k * 4 + 1, none⟩ = some (.int .i64 (nt l k).2.1) ∧ w'.cell? ⟨b', off' + k * 4 + 2, none⟩ = some (.string (nt l k).2.2.1) ∧ w'.cell? ⟨b', off' + k * 4 + 3, none⟩ = some (.int .i64 (nt l k).2.2.2)) (go_simp) (first | (go_at_call 62; refine (eqNote_same _ _ _ _ _).mono ?_; rintro e w' ⟨rfl, hb⟩; obtain ⟨d1, os1, rfl⟩ := ext_of_below hb; clear hb))
      go_wp2
      go_roundw
      case rel => exact ⟨k + 1, by omega, by go_num, (by (repeat (first | exact Below.refl _ _ | exact Hbl.out | refine Below.ext ?_ (by first | omega | (simp; omega) | simp) | refine Below.setCell ?_ (by first | omega | (simp; omega) | simp) _ | refine Below.alloc ?_ (by first | omega | (simp; omega) | simp) _ | refine Below.drew ?_ | refine below_drewN ?_ _ | refine Below.step (by assumption) (by first | omega | (simp; omega) | simp) ?_)))⟩
      case measure => simp [intOf]; omega
    · have Hbl := Lib.hid hbl; clear hbl
      go_wp2
      go_ret
      exact ⟨rfl, Hbl.out⟩
theorem szNote_any (a b d left : Int) (s : ByteArray) (w : World) (hs : s.size ≤ maxLen) (h0 : 0 ≤ left) (h1 : left ≤ 1048576) : Calls Try.prog 67 #[.agg #[.int .i64 a, .int .i64 b, .string s, .int .i64 d], .int .i64 left] w fun e w' => (∃ r, e = .returned (.int .i64 r) ∧ r ≤ left ∧ -1 ≤ r) ∧ Below w.heap.size w w' := by
  unfold maxLen at hs
  have zw : IntKind.i64.wrap (left - s.size) = left - s.size := IntWalk.i64_in _ (by omega)
  by_cases h : left - (s.size : Int) < 0
  · go_enter Try.func67, Try.ntmps67
    go_wp2
    go_ret
    exact ⟨⟨-1, rfl, by omega, by omega⟩, (by (repeat (first | exact Below.refl _ _ | exact Hbl.out | refine Below.ext ?_ (by first | omega | (simp; omega) | simp) | refine Below.setCell ?_ (by first | omega | (simp; omega) | simp) _ | refine Below.alloc ?_ (by first | omega | (simp; omega) | simp) _ | refine Below.drew ?_ | refine below_drewN ?_ _ | refine Below.step (by assumption) (by first | omega | (simp; omega) | simp) ?_)))⟩
  · go_enter Try.func67, Try.ntmps67
    go_wp2
    go_ret
    exact ⟨⟨_, rfl, by omega, by omega⟩, (by (repeat (first | exact Below.refl _ _ | exact Hbl.out | refine Below.ext ?_ (by first | omega | (simp; omega) | simp) | refine Below.setCell ?_ (by first | omega | (simp; omega) | simp) _ | refine Below.alloc ?_ (by first | omega | (simp; omega) | simp) _ | refine Below.drew ?_ | refine below_drewN ?_ _ | refine Below.step (by assumption) (by first | omega | (simp; omega) | simp) ?_)))⟩
/-- What the measuring of a size hands back: a number below 0, or the length was no more than what was left. -/
def Sized (n : Nat) (left : Int) (e : Ending) : Prop := ∃ r, e = .returned (.int .i64 r) ∧ -1 ≤ r ∧ (0 ≤ r → (n : Int) ≤ left)
set_option maxHeartbeats 1000000 in
theorem szNoteS_any (A : Option Addr) (cap : Nat) (l : List T4) (left : Int) (w : World) (hn : l.length ≤ cap) (hc : cap ≤ maxLen) (hx : Txt l) (hA : l = [] ∨ ∃ b off, A = some ⟨b, off, none⟩ ∧ b < w.heap.size ∧ At4 w b off l) (h0 : 0 ≤ left) (h1 : left ≤ 1048576) :
    Calls Try.prog 60 #[.slice A l.length cap, .int .i64 left] w fun e w' => Sized l.length left e ∧ Below w.heap.size w w' := by
  unfold maxLen at hc
  have HA := Lib.hid hA; clear hA
  have Hx := Lib.hid hx; clear hx
  have zw : IntKind.i64.wrap (left - l.length) = left - l.length := IntWalk.i64_in _ (by omega)
  by_cases h : left - (l.length : Int) < 0
  · go_enter Try.func60, Try.ntmps60
    go_wp2
    go_ret
    exact ⟨⟨-1, rfl, by omega, by omega⟩, Below.refl _ _⟩
  · have h' : (l.length : Int) ≤ left := by omega
    go_enter Try.func60, Try.ntmps60
    go_wp2
    go_loopw [1, 5] (fun q i wr => ∃ (k : Nat) (r : Int), k ≤ l.length ∧ i = .int .i64 k ∧ q = .int .i64 r ∧ 0 ≤ r ∧ r ≤ 1048576 ∧ Below w.heap.size w wr) (fun _ i _ => l.length - (intOf i).toNat)
    case atStart => exact ⟨0, _, Nat.zero_le _, rfl, rfl, by omega, by omega, Below.refl _ _⟩
    case round =>
      obtain ⟨k, r, hk, rfl, rfl, r0, r1, hbl⟩ := hrel
      have hsz : w.heap.size ≤ wr.heap.size := hbl.size
      by_cases hlt : k < l.length
      · obtain ⟨b, off, rfl, hb, hcs⟩ := HA.out.resolve_left (fun e => by subst e; simp at hlt)
        obtain ⟨c1, c2, c3, c4⟩ := (hcs.below hb hbl) k hlt
        have hbr : b < wr.heap.size := by omega
        have hs := Hx.out k hlt
        go_wp2_with fail
        refine (szNote_any _ _ _ _ _ _ hs r0 r1).mono ?_
        rintro e w2 ⟨⟨r', rfl, q1, q2⟩, b2⟩
        have c2 := Below.step b2 hbl.size hbl
        have C2 := Lib.hid c2; clear hbl hcs c2
        by_cases hr : r' < 0
        · go_wp2
          go_ret
          exact ⟨⟨-1, rfl, by omega, by omega⟩, C2.out⟩
        · go_wp2
          go_roundw
          case rel => exact ⟨k + 1, r', by omega, by go_num, rfl, by omega, by omega, C2.out⟩
          case measure => simp [intOf]; omega
      · have Hbl := Lib.hid hbl; clear hbl
        go_wp2
        go_ret
        exact ⟨⟨_, rfl, by omega, fun _ => h'⟩, Hbl.out⟩
theorem szAudit_of (v : Value) (next : Int) (l : List T4) (left : Int) (w : World) (h : Sl4 w v l) (hx : Txt l) (h0 : 0 ≤ left) (h1 : left ≤ 1048576) : Calls Try.prog 32 #[.agg #[v, .int .i64 next], .int .i64 left] w fun e w' => Sized l.length left e ∧ Below w.heap.size w w' := by
  obtain ⟨A, cap, rfl, hsh⟩ := h
  have b1 : Below w.heap.size w (w.alloc (.cells #[.slice A l.length cap, .int .i64 next] 55)) := Below.alloc (Below.refl _ _) (Nat.le_refl _) _
  have h3 : Sl4 (w.alloc (.cells #[.slice A l.length cap, .int .i64 next] 55)) (.slice A l.length cap) l := Sl4.below ⟨A, cap, rfl, hsh⟩ b1
  obtain ⟨A', cap', e', s1, s2, s3⟩ := h3
  injection e' with e1 _ e3
  subst e1 e3
  have S3 := Lib.hid s3; clear s3
  go_enter Try.func32, Try.ntmps32
  go_wp2_with fail
  refine (szNoteS_any A cap l left _ s1 s2 hx S3.out h0 h1).mono ?_
  rintro e w2 ⟨⟨r, rfl, r0, r1⟩, b2⟩
  have c2 := Below.step b2 b1.size b1
  by_cases hr : r < 0
  · go_wp2
    go_ret
    exact ⟨⟨-1, rfl, by omega, by omega⟩, c2⟩
  · have R1 := Lib.hid r1; clear r1
    go_wp2
    go_ret
    exact ⟨⟨_, rfl, by omega, R1.out⟩, c2⟩
theorem toAudit_of (v : Value) (next : Int) (l : List T4) (w : World) (h : Sl4 w v l) (hm : l.length ≤ 1048576) : Calls Try.prog 33 #[.agg #[v, .int .i64 next]] w fun e w' => ∃ v', e = .returned (.agg #[v', .int .i64 next]) ∧ Own4 w.heap.size w' v' l ∧ Below w.heap.size w w' := by
  obtain ⟨A, cap, rfl, hsh⟩ := h
  have hcap := hsh.2.1
  have b1 : Below w.heap.size w (((w.alloc (.cells #[.slice A l.length cap, .int .i64 next] 55)).alloc (.cells #[.slice none 0 0, .int .i64 0] 39)).alloc (.cells #[.slice none 0 0, .int .i64 0] 39)) := (by (repeat (first | exact Below.refl _ _ | exact Hbl.out | refine Below.ext ?_ (by first | omega | (simp; omega) | simp) | refine Below.setCell ?_ (by first | omega | (simp; omega) | simp) _ | refine Below.alloc ?_ (by first | omega | (simp; omega) | simp) _ | refine Below.drew ?_ | refine below_drewN ?_ _ | refine Below.step (by assumption) (by first | omega | (simp; omega) | simp) ?_)))
  obtain ⟨A', cap', e', s1, s2, s3⟩ := Sl4.below ⟨A, cap, rfl, hsh⟩ b1
  injection e' with e1 _ e3
  subst e1 e3
  have S3 := Lib.hid s3; clear s3 hsh
  go_enter Try.func33, Try.ntmps33
  go_wp2_with fail
  refine (toNoteS_any A cap l _ s1 s2 S3.out hm).mono ?_
  rintro e w2 ⟨rfl, o2, b2⟩
  obtain ⟨d2, os2, rfl⟩ := ext_of_below b2
  simp only [World.size_alloc] at o2
  have O2 := Lib.hid o2; clear o2
  go_wp2
  refine bodyPost_ret (v := .agg #[.slice (some ⟨w.heap.size + 1 + 1 + 1, 0, none⟩) l.length l.length, .int .i64 next]) ?_ rfl ⟨_, rfl, ?_, ?_⟩
  · simp [results, Try.results33, go_sem]
  · refine own4_mono (own4_heap O2.out fun g hg => ?_) (by omega)
    rw [ext_hi (by simpa using hg), ext_hi (by simpa using hg)]; simp
  · (repeat (first | exact Below.refl _ _ | exact Hbl.out | refine Below.ext ?_ (by first | omega | (simp; omega) | simp) | refine Below.setCell ?_ (by first | omega | (simp; omega) | simp) _ | refine Below.alloc ?_ (by first | omega | (simp; omega) | simp) _ | refine Below.drew ?_ | refine below_drewN ?_ _ | refine Below.step (by assumption) (by first | omega | (simp; omega) | simp) ?_))
theorem eqAudit_of (v v' : Value) (next : Int) (l : List T4) (w : World) (h : Sl4 w v l) (h' : Sl4 w v' l) : Calls Try.prog 35 #[.agg #[v, .int .i64 next], .agg #[v', .int .i64 next]] w fun e w' => e = .returned (.bool true) ∧ Below w.heap.size w w' := by
  have b1 : Below w.heap.size w ((w.alloc (.cells #[v, .int .i64 next] 39)).alloc (.cells #[v', .int .i64 next] 39)) := (by (repeat (first | exact Below.refl _ _ | exact Hbl.out | refine Below.ext ?_ (by first | omega | (simp; omega) | simp) | refine Below.setCell ?_ (by first | omega | (simp; omega) | simp) _ | refine Below.alloc ?_ (by first | omega | (simp; omega) | simp) _ | refine Below.drew ?_ | refine below_drewN ?_ _ | refine Below.step (by assumption) (by first | omega | (simp; omega) | simp) ?_)))
  obtain ⟨A, cap, rfl, s1, s2, s3⟩ := h.below b1
  obtain ⟨A', cap', rfl, s1', s2', s3'⟩ := h'.below b1
  have S3 := Lib.hid s3; clear s3
  have S3' := Lib.hid s3'; clear s3'
  go_enter Try.func35, Try.ntmps35
  go_wp2_with fail
  refine (eqNoteS_any A A' cap cap' l _ s1 s2 S3.out S3'.out).mono ?_
  rintro e w2 ⟨rfl, b2⟩
  obtain ⟨d2, os2, rfl⟩ := ext_of_below b2
  go_wp2
  go_ret
  exact ⟨rfl, (by (repeat (first | exact Below.refl _ _ | exact Hbl.out | refine Below.ext ?_ (by first | omega | (simp; omega) | simp) | refine Below.setCell ?_ (by first | omega | (simp; omega) | simp) _ | refine Below.alloc ?_ (by first | omega | (simp; omega) | simp) _ | refine Below.drew ?_ | refine below_drewN ?_ _ | refine Below.step (by assumption) (by first | omega | (simp; omega) | simp) ?_)))⟩
end Go.Proofs.Ytlanbgpmmlnehaa
