/- What is drawn: a tree, a credential, a path, a Bool and a mode (DrawMakeNode). -/
import Derived.Test.YtkennmpbmbacpaaGreatDoorDrawF
import Derived.Test.YtkennmpbmbacpaaGreatDoorApp0
import Derived.Test.YtkennmpbmbacpaaGreatDoorMakeL
import Derived.Deep.RegionHeld3
set_option linter.unusedSimpArgs false
set_option linter.unusedVariables false
set_option linter.unusedSectionVars false
namespace Go.Proofs.YtkennmpbmbacpaaGreatDoor
open Go.RowKit

theorem mode_done {w W : World} {R : Nat} {p q x0 : Int} (hb : Below (w.setCell ⟨R, 1, none⟩ (.int .i64 q)).heap.size (w.setCell ⟨R, 1, none⟩ (.int .i64 q)) W) (h1 : p ≤ q) (h2 : q ≤ p + 5) : ∃ (x : Int) (q : Int) (d : Nat) (os : Array Obj), Ending.returned (.int .i64 x0) = .returned (.int .i64 x) ∧ p ≤ q ∧ q ≤ p + 5 ∧ W = ext (w.setCell ⟨R, 1, none⟩ (.int .i64 q)) d os := by
  obtain ⟨d, os, e⟩ := ext_of_below hb
  exact ⟨_, q, d, os, rfl, h1, h2, e⟩
/-- A mode is drawn. -/
theorem l20Mode_any (R : Nat) (p n : Int) (w : World) (hr : Rd w R p) (hp : p ≤ 1000000000) (hn : 1 ≤ n) (hn' : n ≤ 1000) : Calls Tryz.prog 64 #[.pointer (some ⟨R, 0, none⟩), .int .i64 n] w fun e w' => ∃ (x : Int) (q : Int) (d : Nat) (os : Array Obj), e = .returned (.int .i64 x) ∧ p ≤ q ∧ q ≤ p + 5 ∧ w' = ext (w.setCell ⟨R, 1, none⟩ (.int .i64 q)) d os := by
  have hR := hr.lt
  have hp0 := hr.pos
  go_enter Tryz.func64, Tryz.ntmps64
  go_wp2_with (go_at_call 63; refine (odd_any _ ?_ _ _ ?_ ?_ ?_ ?_).mono ?_; rotate_left; (focus ((repeat (first | assumption | refine Rd.ext ?_ | refine Rd.drew ?_ | refine Rd.drewN ?_ | refine Rd.set (by assumption) ?_ | refine Rd.lit (by assumption) (by simp) ?_ | refine Rd.alloc ?_ _ | omega)))); (focus omega); (focus omega); (focus omega); rintro e w' ⟨b, d, rfl, rfl⟩)
  · refine (pick_any _ ?_ _ _ ?_ ?_).mono ?_; rotate_left; (focus ((repeat (first | assumption | refine Rd.ext ?_ | refine Rd.drew ?_ | refine Rd.drewN ?_ | refine Rd.set (by assumption) ?_ | refine Rd.lit (by assumption) (by simp) ?_ | refine Rd.alloc ?_ _ | omega)))); (focus omega); rintro e w' ⟨c, dc, rfl, lc, hc, h2, rfl⟩; replace hc := hc (by omega); clear h2
    go_wp2
    go_ret
    refine mode_done (q := p + 1 + 1) ?_ (by omega) (by omega)
    (repeat (first | exact Below.refl _ _ | exact Hbl.out | refine Below.ext ?_ (by first | omega | (simp; omega) | simp) | refine Below.setCell ?_ (by first | omega | (simp; omega) | simp) _ | refine Below.alloc ?_ (by first | omega | (simp; omega) | simp) _ | refine Below.drew ?_ | refine below_drewN ?_ _ | refine Below.step (by assumption) (by first | omega | (simp; omega) | simp) ?_))
  · refine (pick_any _ ?_ _ _ ?_ ?_).mono ?_; rotate_left; (focus ((repeat (first | assumption | refine Rd.ext ?_ | refine Rd.drew ?_ | refine Rd.drewN ?_ | refine Rd.set (by assumption) ?_ | refine Rd.lit (by assumption) (by simp) ?_ | refine Rd.alloc ?_ _ | omega)))); (focus omega); rintro e w' ⟨u, du, rfl, lu, hu, h2, rfl⟩; replace hu := hu (by omega); clear h2
    have zu : IntKind.i64.wrap (u * 4) = u * 4 := IntWalk.i64_in _ (by omega)
    (go_wp2_with fail); refine (pick_any _ ?_ _ _ ?_ ?_).mono ?_; rotate_left; (focus ((repeat (first | assumption | refine Rd.ext ?_ | refine Rd.drew ?_ | refine Rd.drewN ?_ | refine Rd.set (by assumption) ?_ | refine Rd.lit (by assumption) (by simp) ?_ | refine Rd.alloc ?_ _ | omega)))); (focus omega); rintro e w' ⟨x, dx, rfl, lx, hx, h2, rfl⟩; replace hx := hx (by omega); clear h2
    (go_wp2_with fail); refine (pick_any _ ?_ _ _ ?_ ?_).mono ?_; rotate_left; (focus ((repeat (first | assumption | refine Rd.ext ?_ | refine Rd.drew ?_ | refine Rd.drewN ?_ | refine Rd.set (by assumption) ?_ | refine Rd.lit (by assumption) (by simp) ?_ | refine Rd.alloc ?_ _ | omega)))); (focus omega); rintro e w' ⟨v, dv, rfl, lv, hv, h2, rfl⟩; replace hv := hv (by omega); clear h2
    go_wp2
    go_ret
    refine mode_done (q := p + 1 + 1 + 1 + 1) ?_ (by omega) (by omega)
    (repeat (first | exact Below.refl _ _ | exact Hbl.out | refine Below.ext ?_ (by first | omega | (simp; omega) | simp) | refine Below.setCell ?_ (by first | omega | (simp; omega) | simp) _ | refine Below.alloc ?_ (by first | omega | (simp; omega) | simp) _ | refine Below.drew ?_ | refine below_drewN ?_ _ | refine Below.step (by assumption) (by first | omega | (simp; omega) | simp) ?_))
/-- A tree, a credential, a text, a Bool and a number are drawn. -/
def GotMK (w : World) (e : Ending) (w' : World) : Prop := ∃ (v : Value) (t : List Nd) (a b c d : Int) (s : ByteArray) (fo : Bool) (n : Int), e = .returned (.tuple #[v, .agg #[.int .i64 a, .int .i64 b, .int .i64 c, .int .i64 d], .string s, .bool fo, .int .i64 n]) ∧ TreeO w.heap.size w' v t ∧ t.length ≤ 20 ∧ (kidsOf t).length ≤ 40 ∧ s.size ≤ 54 ∧ Below w.heap.size w w'
/-- The credential's box. -/
structure BX (W : World) (bx : Nat) (a b c d : Int) : Prop where
  lt : bx < W.heap.size
  c0 : W.cell? ⟨bx, 0, none⟩ = some (.int .i64 a)
  c1 : W.cell? ⟨bx, 1, none⟩ = some (.int .i64 b)
  c2 : W.cell? ⟨bx, 2, none⟩ = some (.int .i64 c)
  c3 : W.cell? ⟨bx, 3, none⟩ = some (.int .i64 d)
theorem BX.same {W W' : World} {bx : Nat} {a b c d : Int} (h : BX W bx a b c d) (hs : W.heap.size ≤ W'.heap.size) (hc : ∀ i, W'.cell? ⟨bx, i, none⟩ = W.cell? ⟨bx, i, none⟩) : BX W' bx a b c d :=
  ⟨Nat.lt_of_lt_of_le h.lt hs, (hc 0).trans h.c0, (hc 1).trans h.c1, (hc 2).trans h.c2, (hc 3).trans h.c3⟩
/-- The world while the draw goes on. -/
structure SM (W0 : World) (R bx : Nat) (a b c d : Int) (W : World) (q : Int) (v : Value) (cs : List Cn) (t : List Nd) : Prop where
  rb : RB W0 R q W
  tr : TreeC W0.heap.size W v cs t
  bo : BX W bx a b c d
  ap : v.ownBlock ≠ some bx
theorem SM.pick {W0 W : World} {R bx d' : Nat} {a b c d q q' : Int} {v : Value} {cs : List Cn} {t : List Nd} {os : Array Obj} (h : SM W0 R bx a b c d W q v cs t) (hR : R < W0.heap.size) (hne : bx ≠ R) : SM W0 R bx a b c d (ext (W.setCell ⟨R, 1, none⟩ (.int .i64 q')) d' os) q' v cs t :=
  ⟨h.rb.pick hR, h.tr.pick hR, h.bo.same (by simp) (fun i => by
    rw [ext_cell (show bx < _ by rw [size_setCell]; exact h.bo.lt)]
    exact World.cell?_setCell_other _ _ _ _ (fun e => hne (by cases e; rfl))), h.ap⟩
theorem ev6 {b : Bool} {S : Nat} {u : Value} {l : List (List UInt8)} {w w' : World} (h : TilL b S u l w ∧ ∃ A c, u = .slice A l.length c) (e : Below w.heap.size w w') : TilL b S u l w' ∧ ∃ A c, u = .slice A l.length c := ⟨h.1.ev e, h.2⟩
theorem ev21 {b : Bool} {S : Nat} {u : Value} {l : List Int} {w w' : World} (h : TilI b S u l w ∧ ∃ A c, u = .slice A l.length c) (e : Below w.heap.size w w') : TilI b S u l w' ∧ ∃ A c, u = .slice A l.length c := ⟨h.1.ev e, h.2⟩
theorem below_seven {B g : Nat} {w0 w : World} {u0 u1 u2 u3 u4 u5 u6 : Value} (h : Below B w0 w) (hg : B ≤ g) : Below B w0 (((((((w.setCell ⟨g, 0, none⟩ u0).setCell ⟨g, 1, none⟩ u1).setCell ⟨g, 2, none⟩ u2).setCell ⟨g, 3, none⟩ u3).setCell ⟨g, 4, none⟩ u4).setCell ⟨g, 5, none⟩ u5).setCell ⟨g, 6, none⟩ u6) ∧
    ∀ b i, b ≠ g → (((((((w.setCell ⟨g, 0, none⟩ u0).setCell ⟨g, 1, none⟩ u1).setCell ⟨g, 2, none⟩ u2).setCell ⟨g, 3, none⟩ u3).setCell ⟨g, 4, none⟩ u4).setCell ⟨g, 5, none⟩ u5).setCell ⟨g, 6, none⟩ u6).cell? ⟨b, i, none⟩ = w.cell? ⟨b, i, none⟩ := by
  refine ⟨Below.setCell (Below.setCell (Below.setCell (Below.setCell (Below.setCell (Below.setCell (Below.setCell h hg _) hg _) hg _) hg _) hg _) hg _) hg _, fun b i hb => ?_⟩
  have ho : ∀ (u : World) (k : Nat) (z : Value), (u.setCell ⟨g, k, none⟩ z).cell? ⟨b, i, none⟩ = u.cell? ⟨b, i, none⟩ := fun u k z => World.cell?_setCell_other _ _ _ _ (fun e => hb (by cases e; rfl))
  simp only [ho]
theorem mk_write {Bt g n cc c1 c2 : Nat} {w3 w : World} {cs : List Cn} {T : List Nd} {A1 A2 : Option Addr} {N : List (List UInt8)} {K : List Int} {s : List UInt8} {z : Int} (h : TreeC Bt w3 (.slice (some ⟨g, 0, none⟩) n cc) cs T) (hbl : Below w3.heap.size w3 w) (h0 : 0 < T.length)
    (o1 : OwnG EL 9 w3.heap.size w (.slice A1 (N.length + 1) c1) (N ++ [s])) (o2 : OwnG EI 3 w3.heap.size w (.slice A2 (K.length + 1) c2) (K ++ [z])) (hBt : Bt ≤ w3.heap.size) (hnz : ∀ y ∈ N, y.length ≤ 1048576) (hs : s.length ≤ 10) :
    (∃ cs', TreeC Bt (((((((w.setCell ⟨g, 0, none⟩ (.bool true)).setCell ⟨g, 1, none⟩ (.int .i64 0)).setCell ⟨g, 2, none⟩ (.int .i64 0)).setCell ⟨g, 3, none⟩ (.int .i64 511)).setCell ⟨g, 4, none⟩ (.string ByteArray.empty)).setCell ⟨g, 5, none⟩ (.slice A1 (N.length + 1) c1)).setCell ⟨g, 6, none⟩ (.slice A2 (K.length + 1) c2)) (.slice (some ⟨g, 0, none⟩) n cc) cs' (T.set 0 ⟨true, 0, 0, 511, ByteArray.empty, N ++ [s], K ++ [z]⟩)) ∧
    g < w.heap.size ∧ w.cell? ⟨g, 0, none⟩ = some (.bool (kth T 0).fo) ∧ w.cell? ⟨g, 1, none⟩ = some (.int .i64 (kth T 0).ow) ∧ w.cell? ⟨g, 2, none⟩ = some (.int .i64 (kth T 0).gr) ∧ w.cell? ⟨g, 3, none⟩ = some (.int .i64 (kth T 0).mo) ∧ w.cell? ⟨g, 4, none⟩ = some (.string (kth T 0).tx) ∧
    (∃ u, w.cell? ⟨g, 5, none⟩ = some u) ∧ (∃ u, w.cell? ⟨g, 6, none⟩ = some u) ∧ ∀ j, w.frozen? ⟨g, j, none⟩ = false := by
  have hT := h.below hbl
  obtain ⟨c, hc⟩ : ∃ c : Cn, c = ⟨true, 0, 0, 511, ByteArray.empty, A1, N.length + 1, c1, A2, K.length + 1, c2⟩ := ⟨_, rfl⟩
  have hnd : NdO Bt w c ⟨true, 0, 0, 511, ByteArray.empty, N ++ [s], K ++ [z]⟩ := by
    rw [hc]
    refine ⟨rfl, rfl, rfl, rfl, rfl, ownG_mono o1 hBt, ownG_mono o2 hBt, by show ByteArray.empty.size ≤ maxLen; decide, fun y hy => ?_⟩
    rcases List.mem_append.1 hy with h | h
    · exact hnz y h
    · rw [List.mem_singleton.1 h]; omega
  have hsep : ∀ (j : Nat) d, j ≠ 0 → cs[j]? = some d → Sep (nB c) (nB d) ∧ Sep (kB c) (kB d) := fun j d _ hd => by
    have hn := h.nds j d _ hd (kth_at (by rw [← h.len]; exact (List.getElem?_eq_some_iff.1 hd).1))
    rw [hc]
    exact ⟨(ownG_apart hn.ns o1 (Nat.le_refl _)).symm, (ownG_apart hn.ks o2 (Nat.le_refl _)).symm⟩
  have hwr := hT.write h0 hnd hsep
  rw [hc] at hwr
  simp only [Nat.zero_mul, Nat.zero_add] at hwr
  obtain ⟨g', c', eg, _, hgw', _, _, _, v0, v1, v2, v3, v4, v5, v6, vf⟩ := hT.at_ h0
  cases eg
  simp only [Nat.zero_mul, Nat.zero_add] at v0 v1 v2 v3 v4 v5 v6
  exact ⟨⟨_, hwr⟩, hgw', v0, v1, v2, v3, v4, ⟨_, v5⟩, ⟨_, v6⟩, vf⟩
def lenS : Value → Nat
  | .slice _ n _ => n
  | _ => 0
structure ClM (L : Nat → Bool) : Prop where
  e13_12 : L 13 = true → L 12 = true
  e14_13 : L 14 = true → L 13 = true
  e15_6 : L 15 = true → L 6 = true
  e15_14 : L 15 = true → L 14 = true
  e21_15 : L 21 = true → L 15 = true
  e26_21 : L 26 = true → L 21 = true
  e27_26 : L 27 = true → L 26 = true
structure FM (g n cc : Nat) (w3 : World) (nA : Option Addr) (nC : Nat) (kA : Option Addr) (kC : Nat) (N0 : List (List UInt8)) (K0 : List Int) (T6 : List Nd) (Bt : Nat) (L : Nat → Bool) (w : World) (u38 u39 u40 u41 u42 u43 u44 u45 u46 u47 u48 u49 u50 u51 u52 u53 u54 u55 u56 u57 u58 u59 u60 u61 u62 u63 u64 u65 u66 : Value) : Prop where
  com : (L 29 = false → Below w3.heap.size w3 w) ∧ ClM L
  cl : L 29 = true → ∀ k, k < 29 → L k = true
  f0 : (L 29 = false → L 0 = true → u38 = .slice (some ⟨g, 0, none⟩) n cc)
  f1 : (L 29 = false → L 1 = true → Emp1 (L 6) w3.heap.size u39 w)
  f2 : (L 29 = false → L 2 = true → u40 = .slice (some ⟨g, 0, none⟩) n cc)
  f3 : (L 29 = false → L 3 = true → u41 = .pointer (some ⟨g, 0, none⟩))
  f4 : (L 29 = false → L 4 = true → u42 = .pointer (some ⟨g, 5, none⟩))
  f5 : (L 29 = false → L 5 = true → u43 = .slice nA N0.length nC)
  f6 : (L 29 = false → L 6 = true → TilL (L 15) w3.heap.size u44 N0 w ∧ ∃ A c, u44 = .slice A N0.length c)
  f7 : (L 29 = false → L 7 = true → u45 = .slice (some ⟨g, 0, none⟩) n cc)
  f8 : (L 29 = false → L 8 = true → u46 = .int .i64 (n : Int))
  f9 : (L 29 = false → L 9 = true → u47 = .int .i64 (97 + (n : Int)))
  f10 : (L 29 = false → L 10 = true → ∃ x : Int, u48 = .int .u8 x)
  f11 : (L 29 = false → L 11 = true → OneB (L 12) u49 w)
  f12 : (L 29 = false → L 12 = true → ∃ s : ByteArray, u50 = .string s ∧ s.size = 1)
  f13 : (L 29 = false → L 13 = true → ∃ s : List UInt8, u51 = .string (mk s) ∧ s.length ≤ 10)
  f14 : (L 29 = false → L 14 = true → OneL (L 15) w3.heap.size u52 w)
  f15 : (L 29 = false → L 15 = true → GotL w3.heap.size u53 N0 w)
  f16 : (L 29 = false → L 16 = true → Emp2 (L 21) w3.heap.size u54 w)
  f17 : (L 29 = false → L 17 = true → u55 = .slice (some ⟨g, 0, none⟩) n cc)
  f18 : (L 29 = false → L 18 = true → u56 = .pointer (some ⟨g, 0, none⟩))
  f19 : (L 29 = false → L 19 = true → u57 = .pointer (some ⟨g, 6, none⟩))
  f20 : (L 29 = false → L 20 = true → u58 = .slice kA K0.length kC)
  f21 : (L 29 = false → L 21 = true → TilI (L 26) w3.heap.size u59 K0 w ∧ ∃ A c, u59 = .slice A K0.length c)
  f22 : (L 29 = false → L 22 = true → u60 = .slice (some ⟨g, 0, none⟩) n cc)
  f23 : (L 29 = false → L 23 = true → u61 = .int .i64 (n : Int))
  f24 : (L 29 = false → L 24 = true → ∃ z : Int, u62 = .int .i64 z)
  f25 : (L 29 = false → L 25 = true → OneI (L 26) w3.heap.size u63 w)
  f26 : (L 29 = false → L 26 = true → GotI w3.heap.size u64 K0 w)
  f27 : (L 29 = false → L 27 = true → u65 = .agg #[.bool true, .int .i64 0, .int .i64 0, .int .i64 511, .string "".toUTF8, u53, u64])
  f28 : (L 29 = false → L 28 = true → u66 = .pointer (some ⟨g, 0, none⟩))
  f29 : (L 29 = true → ∃ cs s z, TreeC Bt w (.slice (some ⟨g, 0, none⟩) n cc) cs (T6.set 0 ⟨true, 0, 0, 511, ByteArray.empty, N0 ++ [s], K0 ++ [z]⟩) ∧ Below Bt w3 w ∧ w3.heap.size ≤ w.heap.size ∧ (∀ b i, b < w3.heap.size → b ≠ g → w.cell? ⟨b, i, none⟩ = w3.cell? ⟨b, i, none⟩))
set_option maxRecDepth 100000 in
set_option maxHeartbeats 4000000 in
theorem drawMK_any (a : Option Addr) (len cap : Nat) (zs : List Int) (w : World) (hrow : IsRow .u8 w a len cap zs) : Calls Tryz.prog 19 #[.slice a len cap] w (GotMK w) := by
  go_enter Tryz.func19, Tryz.ntmps19
  go_wp2_with (go_at_call 58; refine (open_any _ _ _ _ _ (IsRow.below hrow (by repeat (first | exact Below.refl _ _ | refine Below.alloc ?_ (by simp; try omega) _)))).mono ?_; rintro e w' ⟨A, le, ca, rfl, rfl, zs', hby⟩; (try simp only [World.size_alloc] at hby))
  have D0 := DS.start hby
  obtain ⟨W0, hW0⟩ : ∃ W0, W0 = ((w.alloc (.cells #[.int .i64 0, .int .i64 0, .int .i64 0, .int .i64 0] 25)).alloc (.cells #[.slice A le ca, .int .i64 0] 103)) := ⟨_, rfl⟩
  have hz0 : W0.heap.size = w.heap.size + 2 := by rw [hW0]; simp
  rw [← hW0] at D0 ⊢
  obtain ⟨R, hR⟩ : ∃ R, R = w.heap.size + 1 := ⟨_, rfl⟩
  rw [← hR] at D0
  simp only [← hR]
  have hRz : R < W0.heap.size := by omega
  have HD0 := Lib.hid D0
  clear hW0 hR hby hrow hz0
  refine (l20Tree_any R 0 14 W0 D0.rd (by decide) (by decide) (by decide)).mono ?_
  rintro e W1 ⟨v, cs, t, q1, rfl, hT, h1, h2, h3, k0, k1, hRB⟩
  have D1 := D0.step k0 hRB
  have hr1 := D1.rd
  have HT1 := Lib.hid hT
  have HD1 := Lib.hid D1
  have HRB1 := Lib.hid hRB
  have Hfew := Lib.hid h3
  have hlt := D0.lt
  obtain ⟨A1, cap1, rfl⟩ := (TreeO.r ⟨_, hT⟩).shape
  clear D0 D1 hT hRB h3
  go_wp2_with fail
  refine (l20Cred_any R q1 14 W1 hr1 (by omega) (by decide) (by decide)).mono ?_
  rintro e W2 ⟨_, q2, d2, os2, rfl, k2, k3, ⟨a0, b0, c0, d0, rfl⟩, hW2⟩
  have D2 := HD1.out.pick (d := d2) (os := os2) (q' := q2) (by omega)
  have T2 := HT1.out.pick (d := d2) (os := os2) (i := 1) (u := .int .i64 q2) hRz
  have B2 := HRB1.out.pick (d := d2) (os := os2) (q' := q2) hRz
  rw [← hW2] at D2 T2 B2
  have HB2 := Lib.hid B2
  have hr2 := D2.rd
  have HT2 := Lib.hid T2
  have Hbl := Lib.hid D2.below
  have y0 := D2.cell 0 (by decide)
  have y1 := D2.cell 1 (by decide)
  have y2 := D2.cell 2 (by decide)
  have y3 := D2.cell 3 (by decide)
  have f0 := D2.froz 0
  have f1 := D2.froz 1
  have f2 := D2.froz 2
  have f3 := D2.froz 3
  have hz2 : w.heap.size < W2.heap.size := by have := D2.rd.lt; omega
  have hne : w.heap.size ≠ R := by omega
  have hRz2 : R < W2.heap.size := D2.rd.lt
  have hne2 : R ≠ W2.heap.size := by omega
  have hne3 : W2.heap.size ≠ R := by omega
  have HR2 := Lib.hid (TreeO.r ⟨_, T2⟩)
  have HW := Lib.hid (fun w hr h => l20New_any R q2 (.slice A1 t.length cap1) t w hr (by omega) h (by omega) h2)
  have hst2 : (Value.slice A1 t.length cap1).ownBlock ≠ some W2.heap.size := fun e => by have h := (ownG_block HT2.out.row _ e).2; omega
  clear hW2 D2 B2 T2 HD1 HT1 hr1 HRB1 Hbl y0 y1 y2 y3 f0 f1 f2 f3
  have hn1 := h1
  have hn2 := h2
  go_wp2_with fail
  obtain ⟨Wb, hWb⟩ : ∃ Wb, Wb = W2.alloc (.cells #[.int .i64 a0, .int .i64 b0, .int .i64 c0, .int .i64 d0] 25) := ⟨_, rfl⟩
  rw [← hWb]
  have hbb : Below W2.heap.size W2 Wb := by rw [hWb]; exact Below.alloc (Below.refl _ _) (Nat.le_refl _) _
  have S3 : SM W0 R W2.heap.size a0 b0 c0 d0 Wb q2 (.slice A1 t.length cap1) cs t := ⟨HB2.out.step hbb, HT2.out.below hbb, by rw [hWb]; exact ⟨by simp, by go_simp, by go_simp, by go_simp, by go_simp⟩, hst2⟩
  have HS3 := Lib.hid S3
  have hrd3 := S3.rb.rd HD0.out.rd (by omega)
  obtain ⟨bx, hbx⟩ : ∃ bx, bx = W2.heap.size := ⟨_, rfl⟩
  simp only [← hbx]
  rw [← hbx] at HS3 hne3
  have hbx0 : w.heap.size < bx := by omega
  clear hWb hbb hst2 S3 HB2 HT2 hr2 hbx hz2 hRz2 hne2
  refine (HW.out Wb hrd3 (TreeO.r ⟨_, HS3.out.tr⟩)).mono ?_
  rintro e w' ⟨_, q3, d3, os3, rfl, k4, k5, ⟨x, rfl, hx⟩, hW3⟩
  have S4 := HS3.out.pick (q' := q3) (d' := d3) (os := os3) hRz hne3
  rw [← hW3] at S4
  have HS4 := Lib.hid S4
  have hrd4 := S4.rb.rd HD0.out.rd (by omega)
  clear hW3 S4 HS3 hrd3 HW HR2
  go_wp2_with fail
  refine (pick_any R q3 2 w' hrd4 (by omega)).mono ?_
  rintro e w5 ⟨u, d6, rfl, g0, g1, g2, hW5⟩
  replace g1 := g1 (by omega)
  clear g2
  have S5 := HS4.out.pick (q' := q3 + 1) (d' := d6) (os := #[]) hRz hne3
  rw [← hW5] at S5
  have HS5 := Lib.hid S5
  have hrd5 := S5.rb.rd HD0.out.rd (by omega)
  obtain ⟨fo, hfo⟩ : ∃ fo : Bool, fo = (u == 0) := ⟨_, rfl⟩
  have Hfo := Lib.hid hfo
  clear hW5 S5 HS4 hrd4 hfo
  go_wp2_with fail
  refine (odd_any R (q3 + 1) 24 w5 hrd5 (by omega) (by decide) (by decide)).mono ?_
  rintro e w6 ⟨ob, d7, rfl, hW6⟩
  have S6 := HS5.out.pick (q' := q3 + 1 + 1) (d' := d7) (os := #[]) hRz hne3
  rw [← hW6] at S6
  have HS6 := Lib.hid S6
  clear hW6 S6 HS5 hrd5
  cases ob
  ·
    have HSt := HS6
    have D := HD0.out.step (q' := q3 + 1 + 1) (by omega) HSt.out.rb
    have hrT := D.rd
    have y0 := D.cell 0 (by decide)
    have y1 := D.cell 1 (by decide)
    have y2 := D.cell 2 (by decide)
    have y3 := D.cell 3 (by decide)
    have f0 := D.froz 0
    have f1 := D.froz 1
    have f2 := D.froz 2
    have f3 := D.froz 3
    have hzT : w.heap.size < w6.heap.size := by have := D.rd.lt; omega
    have e0 := HSt.out.bo.c0
    have e1 := HSt.out.bo.c1
    have e2 := HSt.out.bo.c2
    have e3 := HSt.out.bo.c3
    have hbz := HSt.out.bo.lt
    have hne : w.heap.size ≠ R := by omega
    have hRzT : R < w6.heap.size := D.rd.lt
    have hbw : bx ≠ w.heap.size := by omega
    have hlR := D.lt
    have HTt := Lib.hid (show TreeC W0.heap.size w6 (.slice A1 t.length cap1) cs t from HSt.out.tr)
    have Hbl := Lib.hid D.below
    clear D HSt
    go_wp2_with fail
    go_region_held3 (fun w' => w'.cell? ⟨bx, 0, none⟩ = some (.int .i64 a0) ∧ w'.cell? ⟨bx, 1, none⟩ = some (.int .i64 b0) ∧ w'.cell? ⟨bx, 2, none⟩ = some (.int .i64 c0) ∧ w'.cell? ⟨bx, 3, none⟩ = some (.int .i64 d0)) (first | assumption | (go_simp; done) | fail) (first | (go_at_call 64; refine (l20Mode_any R ?_ 12 _ ?_ ?_ (by decide) (by decide)).mono ?_; rotate_left; (focus ((repeat (first | assumption | refine Rd.ext ?_ | refine Rd.drew ?_ | refine Rd.drewN ?_ | refine Rd.set (by assumption) ?_ | refine Rd.lit (by assumption) (by simp) ?_ | refine Rd.alloc ?_ _ | omega)))); (focus omega); rintro e w' ⟨mo, q4, d4, os4, rfl, j0, j1, rfl⟩))
    all_goals
      go_wp2
      refine bodyPost_ret (v := .tuple #[.slice A1 t.length cap1, .agg #[.int .i64 a0, .int .i64 b0, .int .i64 c0, .int .i64 d0], .string x, .bool (u == 0), .int .i64 mo]) ?_ rfl ?_
      · simp only [results, Tryz.results19]
        go_simp
      · refine ⟨_, t, _, _, _, _, _, _, _, rfl, ⟨cs, TreeC.mono (B := W0.heap.size) ?_ (by omega)⟩, hn1, (by omega), hx, ?_⟩
        · repeat (first | with_reducible exact HTt.out | with_reducible refine TreeC.ext ?_ | with_reducible refine TreeC.alloc ?_ _ | with_reducible refine TreeC.rset ?_ (by omega))
        · (repeat (first | with_reducible exact Hbl.out | with_reducible refine Below.ext ?_ (by first | omega | (simp; omega) | (simp; done)) | with_reducible refine Below.alloc ?_ (by first | omega | (simp; omega) | (simp; done)) _ | with_reducible refine Below.setCell ?_ (by first | omega | (simp; omega) | (simp; done)) _))
  ·
    have hlen1 : (kth t 0).ns.length ≤ 1000000 + t.length ∧ (kth t 0).ks.length ≤ 1000000 + t.length := by
      by_cases h0 : 0 < t.length
      · have := Hfew.out 0 h0
        omega
      · rw [kth_out (by omega)]
        exact ⟨Nat.zero_le _, Nat.zero_le _⟩
    have Hlen1 := Lib.hid hlen1
    clear hlen1
    go_wp2
    go_loopw [8] (fun v wr => ∃ (A : Option Addr) (cc : Nat) (cs : List Cn) (T : List Nd), v = .slice A T.length cc ∧ SM W0 R bx a0 b0 c0 d0 wr (q3 + 1 + 1) v cs T ∧ T.length ≤ 20 ∧ (kidsOf T).length ≤ 16 + T.length ∧ (kth T 0).ns.length ≤ 1000000 + T.length ∧ (kth T 0).ks.length ≤ 1000000 + T.length) (fun v _ => 16 - lenS v)
    case atStart => exact ⟨_, _, cs, t, rfl, HS6.out, hn1, by omega, Hlen1.out.1, Hlen1.out.2⟩
    case round =>
      obtain ⟨Ar, cr, csr, T, rfl, hS, hT20, hTk, hTn0, hTk0⟩ := hrel
      have HSr := Lib.hid hS
      have hcc := (TreeO.r ⟨_, hS.tr⟩).caps
      obtain ⟨wo, rfl⟩ : ∃ wo, wo = wr := ⟨_, rfl⟩
      clear hS HS6 Hlen1
      by_cases h0 : T.length = 0
      · obtain rfl : T = [] := List.length_eq_zero_iff.1 h0
        clear hT20 hTn0 hTk0 h0
        have HSt := HSr
        have D := HD0.out.step (q' := q3 + 1 + 1) (by omega) HSt.out.rb
        have hrT := D.rd
        have y0 := D.cell 0 (by decide)
        have y1 := D.cell 1 (by decide)
        have y2 := D.cell 2 (by decide)
        have y3 := D.cell 3 (by decide)
        have f0 := D.froz 0
        have f1 := D.froz 1
        have f2 := D.froz 2
        have f3 := D.froz 3
        have hzT : w.heap.size < wo.heap.size := by have := D.rd.lt; omega
        have e0 := HSt.out.bo.c0
        have e1 := HSt.out.bo.c1
        have e2 := HSt.out.bo.c2
        have e3 := HSt.out.bo.c3
        have hbz := HSt.out.bo.lt
        have hne : w.heap.size ≠ R := by omega
        have hRzT : R < wo.heap.size := D.rd.lt
        have hbw : bx ≠ w.heap.size := by omega
        have hlR := D.lt
        have HTt := Lib.hid (show TreeC W0.heap.size wo (.slice Ar 0 cr) csr [] from HSt.out.tr)
        have Hbl := Lib.hid D.below
        clear D HSt
        go_wp2_with fail
        go_region_held3 (fun w' => w'.cell? ⟨bx, 0, none⟩ = some (.int .i64 a0) ∧ w'.cell? ⟨bx, 1, none⟩ = some (.int .i64 b0) ∧ w'.cell? ⟨bx, 2, none⟩ = some (.int .i64 c0) ∧ w'.cell? ⟨bx, 3, none⟩ = some (.int .i64 d0)) (first | assumption | (go_simp; done) | fail) (first | (go_at_call 64; refine (l20Mode_any R ?_ 12 _ ?_ ?_ (by decide) (by decide)).mono ?_; rotate_left; (focus ((repeat (first | assumption | refine Rd.ext ?_ | refine Rd.drew ?_ | refine Rd.drewN ?_ | refine Rd.set (by assumption) ?_ | refine Rd.lit (by assumption) (by simp) ?_ | refine Rd.alloc ?_ _ | omega)))); (focus omega); rintro e w' ⟨mo, q4, d4, os4, rfl, j0, j1, rfl⟩))
        all_goals
          go_wp2
          refine bodyPost_ret (v := .tuple #[.slice Ar 0 cr, .agg #[.int .i64 a0, .int .i64 b0, .int .i64 c0, .int .i64 d0], .string x, .bool (u == 0), .int .i64 mo]) ?_ rfl ?_
          · simp only [results, Tryz.results19]
            go_simp
          · refine ⟨_, [], _, _, _, _, _, _, _, rfl, ⟨csr, TreeC.mono (B := W0.heap.size) ?_ (by omega)⟩, (by decide), (by decide), hx, ?_⟩
            · repeat (first | with_reducible exact HTt.out | with_reducible refine TreeC.ext ?_ | with_reducible refine TreeC.alloc ?_ _ | with_reducible refine TreeC.rset ?_ (by omega))
            · (repeat (first | with_reducible exact Hbl.out | with_reducible refine Below.ext ?_ (by first | omega | (simp; omega) | (simp; done)) | with_reducible refine Below.alloc ?_ (by first | omega | (simp; omega) | (simp; done)) _ | with_reducible refine Below.setCell ?_ (by first | omega | (simp; omega) | (simp; done)) _))
      · by_cases h16 : 16 ≤ T.length
        · have e0 : decide (0 < (T.length : Int)) = true := by simpa using (show 0 < T.length by omega)
          have e1 : decide ((T.length : Int) < 16) = false := by simpa using (show ¬ (T.length : Int) < 16 by omega)
          clear hTn0 hTk0 h0
          have HSt := HSr
          have D := HD0.out.step (q' := q3 + 1 + 1) (by omega) HSt.out.rb
          have hrT := D.rd
          have y0 := D.cell 0 (by decide)
          have y1 := D.cell 1 (by decide)
          have y2 := D.cell 2 (by decide)
          have y3 := D.cell 3 (by decide)
          have f0 := D.froz 0
          have f1 := D.froz 1
          have f2 := D.froz 2
          have f3 := D.froz 3
          have hzT : w.heap.size < wo.heap.size := by have := D.rd.lt; omega
          have e0 := HSt.out.bo.c0
          have e1 := HSt.out.bo.c1
          have e2 := HSt.out.bo.c2
          have e3 := HSt.out.bo.c3
          have hbz := HSt.out.bo.lt
          have hne : w.heap.size ≠ R := by omega
          have hRzT : R < wo.heap.size := D.rd.lt
          have hbw : bx ≠ w.heap.size := by omega
          have hlR := D.lt
          have HTt := Lib.hid (show TreeC W0.heap.size wo (.slice Ar T.length cr) csr T from HSt.out.tr)
          have Hbl := Lib.hid D.below
          clear D HSt
          go_wp2_with fail
          go_region_held3 (fun w' => w'.cell? ⟨bx, 0, none⟩ = some (.int .i64 a0) ∧ w'.cell? ⟨bx, 1, none⟩ = some (.int .i64 b0) ∧ w'.cell? ⟨bx, 2, none⟩ = some (.int .i64 c0) ∧ w'.cell? ⟨bx, 3, none⟩ = some (.int .i64 d0)) (first | assumption | (go_simp; done) | fail) (first | (go_at_call 64; refine (l20Mode_any R ?_ 12 _ ?_ ?_ (by decide) (by decide)).mono ?_; rotate_left; (focus ((repeat (first | assumption | refine Rd.ext ?_ | refine Rd.drew ?_ | refine Rd.drewN ?_ | refine Rd.set (by assumption) ?_ | refine Rd.lit (by assumption) (by simp) ?_ | refine Rd.alloc ?_ _ | omega)))); (focus omega); rintro e w' ⟨mo, q4, d4, os4, rfl, j0, j1, rfl⟩))
          all_goals
            go_wp2
            refine bodyPost_ret (v := .tuple #[.slice Ar T.length cr, .agg #[.int .i64 a0, .int .i64 b0, .int .i64 c0, .int .i64 d0], .string x, .bool (u == 0), .int .i64 mo]) ?_ rfl ?_
            · simp only [results, Tryz.results19]
              go_simp
            · refine ⟨_, T, _, _, _, _, _, _, _, rfl, ⟨csr, TreeC.mono (B := W0.heap.size) ?_ (by omega)⟩, hT20, (by omega), hx, ?_⟩
              · repeat (first | with_reducible exact HTt.out | with_reducible refine TreeC.ext ?_ | with_reducible refine TreeC.alloc ?_ _ | with_reducible refine TreeC.rset ?_ (by omega))
              · (repeat (first | with_reducible exact Hbl.out | with_reducible refine Below.ext ?_ (by first | omega | (simp; omega) | (simp; done)) | with_reducible refine Below.alloc ?_ (by first | omega | (simp; omega) | (simp; done)) _ | with_reducible refine Below.setCell ?_ (by first | omega | (simp; omega) | (simp; done)) _))
        · have e0 : decide (0 < (T.length : Int)) = true := by simpa using (show 0 < T.length by omega)
          have e1 : decide ((T.length : Int) < 16) = true := by simpa using (show (T.length : Int) < 16 by omega)
          have hlc : csr.length = T.length := HSr.out.tr.len
          have Hlc := Lib.hid hlc
          obtain ⟨g0', c0', rfl, hgB0, hgw0, -⟩ := HSr.out.tr.at_ (k := 0) (show 0 < T.length by omega)
          have hap0 : g0' ≠ bx := fun e => HSr.out.ap (by rw [e]; rfl)
          have hbz := HSr.out.bo.lt
          have hW0z := HSr.out.rb.size
          clear hlc
          go_wp2_with (at_builtin; refine wpList_appG fitEC _ rfl (.tmp 34) (.tmp 36) rfl W0.heap.size (.slice (some ⟨g0', 0, none⟩) T.length cr) csr rfl ?cO _ [⟨false, 0, 0, 0, ByteArray.empty, none, 0, 0, none, 0, 0⟩] rfl ?cS ?cL ?cB ?_)
          case cO => exact ownG_alloc HSr.out.tr.row _
          case cS => exact slG_one (by simp) (by intro j u hu; rcases j with _ | _ | _ | _ | _ | _ | _ | j <;> simp [EC, Cn.cells] at hu <;> subst hu <;> first | (go_simp; done) | (go_simp; rfl))
          case cL => rw [Hlc.out]; simp; omega
          case cB => simp; omega
          intro v9 w3 ha9 hb9
          have hP := TreeC.push (x := newNd false 0 0 0) (t := T) (HSr.out.tr.below (Below.alloc (Below.refl _ _) (Nat.le_refl _) _)) ⟨rfl, rfl, rfl, rfl, rfl, ownG_none _ _, ownG_none _ _, by show ByteArray.empty.size ≤ maxLen; decide, fun y hy => by cases hy⟩ (fun j d _ => ⟨.inl rfl, .inl rfl⟩) ha9
          obtain ⟨A9, cc, rfl, g, rfl⟩ := appG_some ha9
          have hR9 : RB W0 R (q3 + 1 + 1) w3 := Below.trans (HSr.out.rb.step (Below.alloc (Below.refl _ _) (Nat.le_refl _) _)) (Below.mono hb9 (by rw [size_setCell]; exact Nat.le_refl _))
          have hgg := ha9.2.1
          have hwz := hgg.size
          simp only [World.size_alloc] at hwz
          have hB9 : BX w3 bx a0 b0 c0 d0 := HSr.out.bo.same (by omega) (fun i => (hgg.cell_far ⟨bx, i, none⟩ (show bx < _ by simp; omega) (fun e => HSr.out.ap e.symm)).trans (by go_simp))
          have hap9 : g ≠ bx := by
            intro e
            rcases ha9.2.2 with h | h
            · have h2 : some g = some g0' := h
              injection h2 with h2
              omega
            · have h2 : some g = some _ := h
              injection h2 with h2
              simp only [World.size_alloc] at h2
              omega
          obtain ⟨T6, hT6e⟩ : ∃ T6, T6 = T ++ [newNd false 0 0 0] := ⟨_, rfl⟩
          have hl6 : T6.length = T.length + 1 := by rw [hT6e]; simp
          have hk6 : (kidsOf T6).length = (kidsOf T).length := by rw [hT6e]; simp [kidsOf, newNd]
          have h06 : kth T6 0 = kth T 0 := by
            rw [hT6e]
            unfold kth
            rw [List.getD_eq_getElem?_getD, List.getD_eq_getElem?_getD, List.getElem?_append_left (by omega)]
          rw [← hT6e] at hP
          rw [List.length_append, List.length_singleton, Hlc.out] at hP ⊢
          generalize csr ++ [(⟨false, 0, 0, 0, ByteArray.empty, none, 0, 0, none, 0, 0⟩ : Cn)] = cs6 at hP
          obtain ⟨g', c6, eg, hgBt, hgw, -, -, hNS6, -, -, -, -, -, y5, y6, -⟩ := hP.at_ (k := 0) (by omega)
          cases eg
          rw [Nat.zero_mul, Nat.zero_add] at y5 y6
          have HNs := Lib.hid hNS6.ns
          have HKs := Lib.hid hNS6.ks
          have HNz := Lib.hid hNS6.nz
          obtain ⟨N0, hN0⟩ : ∃ N0, N0 = (kth T6 0).ns := ⟨_, rfl⟩
          obtain ⟨K0, hK0⟩ : ∃ K0, K0 = (kth T6 0).ks := ⟨_, rfl⟩
          have hN0l : N0.length ≤ 1000020 := by rw [hN0, h06]; omega
          have hK0l : K0.length ≤ 1000020 := by rw [hK0, h06]; omega
          have Hb0 := Lib.hid (show N0.length ≤ 1000000 + T.length ∧ K0.length ≤ 1000000 + T.length by rw [hN0, hK0, h06]; exact ⟨hTn0, hTk0⟩)
          have Hk6 := Lib.hid (show (kidsOf T6).length ≤ 16 + T.length ∧ K0.length = (kth T6 0).ks.length by rw [hk6, hK0]; exact ⟨hTk, rfl⟩)
          rw [← hN0] at y5 HNs HNz
          rw [← hK0] at y6 HKs
          generalize c6.nA = nA at y5 HNs
          generalize c6.nC = nC at y5 HNs
          generalize c6.kA = kA at y6 HKs
          generalize c6.kC = kC at y6 HKs
          have HR9 := Lib.hid hR9
          have HB9 := Lib.hid hB9
          obtain ⟨Bt, hBt0⟩ : ∃ Bt, Bt = W0.heap.size := ⟨_, rfl⟩
          rw [← hBt0] at hP hgBt
          have HBt0 := Lib.hid hBt0
          have hBt : Bt ≤ w3.heap.size := by omega
          have h0T6 : 0 < T6.length := by omega
          obtain ⟨n, hn⟩ : ∃ n, n = T.length + 1 := ⟨_, rfl⟩
          rw [← hn] at hP hl6 ⊢
          have hn17 : n ≤ 16 := by omega
          have hn0 : (0 : Int) < (n : Int) := by omega
          have hn0' : 0 < n := by omega
          have Hn := Lib.hid hn
          have Hl6 := Lib.hid hl6
          have HT6 := Lib.hid hP
          have z97 : IntKind.i64.wrap (97 + (n : Int)) = 97 + (n : Int) := IntWalk.i64_in _ (by omega)
          have zn1 : IntKind.i64.wrap ((n : Int) - 1) = (n : Int) - 1 := IntWalk.i64_in _ (by omega)
          clear hP ha9 hb9 hgg hwz hR9 hB9 hT6e hl6 hk6 h06 hNS6 hN0 hK0 hBt0 hn HSr hcc hT20 hTk hTn0 hTk0 h0 h16 e0 e1 Hlc hgB0 hgw0 hap0
          go_upto_region 9 with fail
          refine wp_region_put [38, 39, 40, 41, 42, 43, 44, 45, 46, 47, 48, 49, 50, 51, 52, 53, 54, 55, 56, 57, 58, 59, 60, 61, 62, 63, 64, 65, 66] (fun L us wx => ∃ u38 u39 u40 u41 u42 u43 u44 u45 u46 u47 u48 u49 u50 u51 u52 u53 u54 u55 u56 u57 u58 u59 u60 u61 u62 u63 u64 u65 u66, us = [u38, u39, u40, u41, u42, u43, u44, u45, u46, u47, u48, u49, u50, u51, u52, u53, u54, u55, u56, u57, u58, u59, u60, u61, u62, u63, u64, u65, u66] ∧ FM g n cc w3 nA nC kA kC N0 K0 T6 Bt L wx u38 u39 u40 u41 u42 u43 u44 u45 u46 u47 u48 u49 u50 u51 u52 u53 u54 u55 u56 u57 u58 u59 u60 u61 u62 u63 u64 u65 u66) (by kernel_rfl) (by kernel_rfl) ?_ ?_ ?_
          · exact ⟨_, _, _, _, _, _, _, _, _, _, _, _, _, _, _, _, _, _, _, _, _, _, _, _, _, _, _, _, _, rfl, ⟨⟨fun _ => Below.drew (Below.refl _ _), ⟨fun h => absurd h (by simp), fun h => absurd h (by simp), fun h => absurd h (by simp), fun h => absurd h (by simp), fun h => absurd h (by simp), fun h => absurd h (by simp), fun h => absurd h (by simp)⟩⟩, fun h => absurd h (by simp), fun _ h => absurd h (by simp), fun _ h => absurd h (by simp), fun _ h => absurd h (by simp), fun _ h => absurd h (by simp), fun _ h => absurd h (by simp), fun _ h => absurd h (by simp), fun _ h => absurd h (by simp), fun _ h => absurd h (by simp), fun _ h => absurd h (by simp), fun _ h => absurd h (by simp), fun _ h => absurd h (by simp), fun _ h => absurd h (by simp), fun _ h => absurd h (by simp), fun _ h => absurd h (by simp), fun _ h => absurd h (by simp), fun _ h => absurd h (by simp), fun _ h => absurd h (by simp), fun _ h => absurd h (by simp), fun _ h => absurd h (by simp), fun _ h => absurd h (by simp), fun _ h => absurd h (by simp), fun _ h => absurd h (by simp), fun _ h => absurd h (by simp), fun _ h => absurd h (by simp), fun _ h => absurd h (by simp), fun _ h => absurd h (by simp), fun _ h => absurd h (by simp), fun _ h => absurd h (by simp), fun _ h => absurd h (by simp), fun h => absurd h (by simp)⟩⟩
          · repeat' (first | exact Stps.nil | refine Stps.cons ?_ ?_)
            · show Stp _ _ _ _ _ 0 _
              intro L _ w hi hL ⟨us, hus, u38, u39, u40, u41, u42, u43, u44, u45, u46, u47, u48, u49, u50, u51, u52, u53, u54, u55, u56, u57, u58, u59, u60, u61, u62, u63, u64, u65, u66, e, hF⟩ K hK
              subst hus
              have HF := Lib.hid hF
              clear hF
              obtain ⟨hb0, cm⟩ := HF.out.com
              have hnl : L 29 = false := no_last (fun h => HF.out.cl h 0 (by decide)) hi
              have hbl := hb0 hnl
              subst e
              simp only [putsA, putsL, List.set_cons_zero, List.set_cons_succ]
              go_simp
              refine hK.out _ _ ⟨[.slice (some ⟨g, 0, none⟩) n cc, u39, u40, u41, u42, u43, u44, u45, u46, u47, u48, u49, u50, u51, u52, u53, u54, u55, u56, u57, u58, u59, u60, u61, u62, u63, u64, u65, u66], by kernel_rfl, _, _, _, _, _, _, _, _, _, _, _, _, _, _, _, _, _, _, _, _, _, _, _, _, _, _, _, _, _, rfl, ⟨fun _ => hbl, ⟨fun h => upd_of (cm.e13_12 h), fun h => upd_of (cm.e14_13 h), fun h => upd_of (cm.e15_6 h), fun h => upd_of (cm.e15_14 h), fun h => upd_of (cm.e21_15 h), fun h => upd_of (cm.e26_21 h), fun h => upd_of (cm.e27_26 h)⟩⟩, fun h => absurd (show L 29 = true from h) (by simp [hnl]),
                fun _ _ => rfl,
                fun _ hj => HF.out.f1 hnl hj,
                fun _ hj => HF.out.f2 hnl hj,
                fun _ hj => HF.out.f3 hnl hj,
                fun _ hj => HF.out.f4 hnl hj,
                fun _ hj => HF.out.f5 hnl hj,
                fun _ hj => HF.out.f6 hnl hj,
                fun _ hj => HF.out.f7 hnl hj,
                fun _ hj => HF.out.f8 hnl hj,
                fun _ hj => HF.out.f9 hnl hj,
                fun _ hj => HF.out.f10 hnl hj,
                fun _ hj => HF.out.f11 hnl hj,
                fun _ hj => HF.out.f12 hnl hj,
                fun _ hj => HF.out.f13 hnl hj,
                fun _ hj => HF.out.f14 hnl hj,
                fun _ hj => HF.out.f15 hnl hj,
                fun _ hj => HF.out.f16 hnl hj,
                fun _ hj => HF.out.f17 hnl hj,
                fun _ hj => HF.out.f18 hnl hj,
                fun _ hj => HF.out.f19 hnl hj,
                fun _ hj => HF.out.f20 hnl hj,
                fun _ hj => HF.out.f21 hnl hj,
                fun _ hj => HF.out.f22 hnl hj,
                fun _ hj => HF.out.f23 hnl hj,
                fun _ hj => HF.out.f24 hnl hj,
                fun _ hj => HF.out.f25 hnl hj,
                fun _ hj => HF.out.f26 hnl hj,
                fun _ hj => HF.out.f27 hnl hj,
                fun _ hj => HF.out.f28 hnl hj,
                fun hj => absurd (show L 29 = true from hj) (by simp [hnl])⟩
            · show Stp _ _ _ _ _ 1 _
              intro L _ w hi hL ⟨us, hus, u38, u39, u40, u41, u42, u43, u44, u45, u46, u47, u48, u49, u50, u51, u52, u53, u54, u55, u56, u57, u58, u59, u60, u61, u62, u63, u64, u65, u66, e, hF⟩ K hK
              subst hus
              have HF := Lib.hid hF
              clear hF
              obtain ⟨hb0, cm⟩ := HF.out.com
              have hnl : L 29 = false := no_last (fun h => HF.out.cl h 1 (by decide)) hi
              have hbl := hb0 hnl
              subst e
              simp only [putsA, putsL, List.set_cons_zero, List.set_cons_succ]
              go_simp
              refine hK.out _ _ ⟨[u38, .slice (some ⟨w.heap.size, 0, none⟩) 0 0, u40, u41, u42, u43, u44, u45, u46, u47, u48, u49, u50, u51, u52, u53, u54, u55, u56, u57, u58, u59, u60, u61, u62, u63, u64, u65, u66], by kernel_rfl, _, _, _, _, _, _, _, _, _, _, _, _, _, _, _, _, _, _, _, _, _, _, _, _, _, _, _, _, _, rfl, ⟨fun _ => Below.alloc hbl hbl.size _, ⟨fun h => upd_of (cm.e13_12 h), fun h => upd_of (cm.e14_13 h), fun h => upd_of (cm.e15_6 h), fun h => upd_of (cm.e15_14 h), fun h => upd_of (cm.e21_15 h), fun h => upd_of (cm.e26_21 h), fun h => upd_of (cm.e27_26 h)⟩⟩, fun h => absurd (show L 29 = true from h) (by simp [hnl]),
                fun _ hj => HF.out.f0 hnl hj,
                fun _ _ _ => ⟨_, rfl, ownG_empty _ rfl hbl.size⟩,
                fun _ hj => HF.out.f2 hnl hj,
                fun _ hj => HF.out.f3 hnl hj,
                fun _ hj => HF.out.f4 hnl hj,
                fun _ hj => HF.out.f5 hnl hj,
                fun _ hj => ev6 (HF.out.f6 hnl hj) (Below.alloc (Below.refl _ _) (Nat.le_refl _) _),
                fun _ hj => HF.out.f7 hnl hj,
                fun _ hj => HF.out.f8 hnl hj,
                fun _ hj => HF.out.f9 hnl hj,
                fun _ hj => HF.out.f10 hnl hj,
                fun _ hj => OneB.ev (HF.out.f11 hnl hj) (Below.alloc (Below.refl _ _) (Nat.le_refl _) _),
                fun _ hj => HF.out.f12 hnl hj,
                fun _ hj => HF.out.f13 hnl hj,
                fun _ hj => OneL.ev (HF.out.f14 hnl hj) (Below.alloc (Below.refl _ _) (Nat.le_refl _) _),
                fun _ hj => GotL.ev (HF.out.f15 hnl hj) (Below.alloc (Below.refl _ _) (Nat.le_refl _) _),
                fun _ hj => Emp2.ev (HF.out.f16 hnl hj) (Below.alloc (Below.refl _ _) (Nat.le_refl _) _),
                fun _ hj => HF.out.f17 hnl hj,
                fun _ hj => HF.out.f18 hnl hj,
                fun _ hj => HF.out.f19 hnl hj,
                fun _ hj => HF.out.f20 hnl hj,
                fun _ hj => ev21 (HF.out.f21 hnl hj) (Below.alloc (Below.refl _ _) (Nat.le_refl _) _),
                fun _ hj => HF.out.f22 hnl hj,
                fun _ hj => HF.out.f23 hnl hj,
                fun _ hj => HF.out.f24 hnl hj,
                fun _ hj => OneI.ev (HF.out.f25 hnl hj) (Below.alloc (Below.refl _ _) (Nat.le_refl _) _),
                fun _ hj => GotI.ev (HF.out.f26 hnl hj) (Below.alloc (Below.refl _ _) (Nat.le_refl _) _),
                fun _ hj => HF.out.f27 hnl hj,
                fun _ hj => HF.out.f28 hnl hj,
                fun hj => absurd (show L 29 = true from hj) (by simp [hnl])⟩
            · show Stp _ _ _ _ _ 2 _
              intro L _ w hi hL ⟨us, hus, u38, u39, u40, u41, u42, u43, u44, u45, u46, u47, u48, u49, u50, u51, u52, u53, u54, u55, u56, u57, u58, u59, u60, u61, u62, u63, u64, u65, u66, e, hF⟩ K hK
              subst hus
              have HF := Lib.hid hF
              clear hF
              obtain ⟨hb0, cm⟩ := HF.out.com
              have hnl : L 29 = false := no_last (fun h => HF.out.cl h 2 (by decide)) hi
              have hbl := hb0 hnl
              subst e
              simp only [putsA, putsL, List.set_cons_zero, List.set_cons_succ]
              go_simp
              refine hK.out _ _ ⟨[u38, u39, .slice (some ⟨g, 0, none⟩) n cc, u41, u42, u43, u44, u45, u46, u47, u48, u49, u50, u51, u52, u53, u54, u55, u56, u57, u58, u59, u60, u61, u62, u63, u64, u65, u66], by kernel_rfl, _, _, _, _, _, _, _, _, _, _, _, _, _, _, _, _, _, _, _, _, _, _, _, _, _, _, _, _, _, rfl, ⟨fun _ => hbl, ⟨fun h => upd_of (cm.e13_12 h), fun h => upd_of (cm.e14_13 h), fun h => upd_of (cm.e15_6 h), fun h => upd_of (cm.e15_14 h), fun h => upd_of (cm.e21_15 h), fun h => upd_of (cm.e26_21 h), fun h => upd_of (cm.e27_26 h)⟩⟩, fun h => absurd (show L 29 = true from h) (by simp [hnl]),
                fun _ hj => HF.out.f0 hnl hj,
                fun _ hj => HF.out.f1 hnl hj,
                fun _ _ => rfl,
                fun _ hj => HF.out.f3 hnl hj,
                fun _ hj => HF.out.f4 hnl hj,
                fun _ hj => HF.out.f5 hnl hj,
                fun _ hj => HF.out.f6 hnl hj,
                fun _ hj => HF.out.f7 hnl hj,
                fun _ hj => HF.out.f8 hnl hj,
                fun _ hj => HF.out.f9 hnl hj,
                fun _ hj => HF.out.f10 hnl hj,
                fun _ hj => HF.out.f11 hnl hj,
                fun _ hj => HF.out.f12 hnl hj,
                fun _ hj => HF.out.f13 hnl hj,
                fun _ hj => HF.out.f14 hnl hj,
                fun _ hj => HF.out.f15 hnl hj,
                fun _ hj => HF.out.f16 hnl hj,
                fun _ hj => HF.out.f17 hnl hj,
                fun _ hj => HF.out.f18 hnl hj,
                fun _ hj => HF.out.f19 hnl hj,
                fun _ hj => HF.out.f20 hnl hj,
                fun _ hj => HF.out.f21 hnl hj,
                fun _ hj => HF.out.f22 hnl hj,
                fun _ hj => HF.out.f23 hnl hj,
                fun _ hj => HF.out.f24 hnl hj,
                fun _ hj => HF.out.f25 hnl hj,
                fun _ hj => HF.out.f26 hnl hj,
                fun _ hj => HF.out.f27 hnl hj,
                fun _ hj => HF.out.f28 hnl hj,
                fun hj => absurd (show L 29 = true from hj) (by simp [hnl])⟩
            · show Stp _ _ _ _ _ 3 _
              intro L _ w hi hL ⟨us, hus, u38, u39, u40, u41, u42, u43, u44, u45, u46, u47, u48, u49, u50, u51, u52, u53, u54, u55, u56, u57, u58, u59, u60, u61, u62, u63, u64, u65, u66, e, hF⟩ K hK
              subst hus
              have HF := Lib.hid hF
              clear hF
              obtain ⟨hb0, cm⟩ := HF.out.com
              have hnl : L 29 = false := no_last (fun h => HF.out.cl h 3 (by decide)) hi
              simp [Region.binds] at hL
              have g2 := HF.out.f2 hnl (by simp [hL])
              have hbl := hb0 hnl
              obtain rfl := g2
              subst e
              simp only [putsA, putsL, List.set_cons_zero, List.set_cons_succ]
              go_simp
              refine hK.out _ _ ⟨[u38, u39, .slice (some ⟨g, 0, none⟩) n cc, .pointer (some ⟨g, 0, none⟩), u42, u43, u44, u45, u46, u47, u48, u49, u50, u51, u52, u53, u54, u55, u56, u57, u58, u59, u60, u61, u62, u63, u64, u65, u66], by kernel_rfl, _, _, _, _, _, _, _, _, _, _, _, _, _, _, _, _, _, _, _, _, _, _, _, _, _, _, _, _, _, rfl, ⟨fun _ => hbl, ⟨fun h => upd_of (cm.e13_12 h), fun h => upd_of (cm.e14_13 h), fun h => upd_of (cm.e15_6 h), fun h => upd_of (cm.e15_14 h), fun h => upd_of (cm.e21_15 h), fun h => upd_of (cm.e26_21 h), fun h => upd_of (cm.e27_26 h)⟩⟩, fun h => absurd (show L 29 = true from h) (by simp [hnl]),
                fun _ hj => HF.out.f0 hnl hj,
                fun _ hj => HF.out.f1 hnl hj,
                fun _ hj => HF.out.f2 hnl hj,
                fun _ _ => rfl,
                fun _ hj => HF.out.f4 hnl hj,
                fun _ hj => HF.out.f5 hnl hj,
                fun _ hj => HF.out.f6 hnl hj,
                fun _ hj => HF.out.f7 hnl hj,
                fun _ hj => HF.out.f8 hnl hj,
                fun _ hj => HF.out.f9 hnl hj,
                fun _ hj => HF.out.f10 hnl hj,
                fun _ hj => HF.out.f11 hnl hj,
                fun _ hj => HF.out.f12 hnl hj,
                fun _ hj => HF.out.f13 hnl hj,
                fun _ hj => HF.out.f14 hnl hj,
                fun _ hj => HF.out.f15 hnl hj,
                fun _ hj => HF.out.f16 hnl hj,
                fun _ hj => HF.out.f17 hnl hj,
                fun _ hj => HF.out.f18 hnl hj,
                fun _ hj => HF.out.f19 hnl hj,
                fun _ hj => HF.out.f20 hnl hj,
                fun _ hj => HF.out.f21 hnl hj,
                fun _ hj => HF.out.f22 hnl hj,
                fun _ hj => HF.out.f23 hnl hj,
                fun _ hj => HF.out.f24 hnl hj,
                fun _ hj => HF.out.f25 hnl hj,
                fun _ hj => HF.out.f26 hnl hj,
                fun _ hj => HF.out.f27 hnl hj,
                fun _ hj => HF.out.f28 hnl hj,
                fun hj => absurd (show L 29 = true from hj) (by simp [hnl])⟩
            · show Stp _ _ _ _ _ 4 _
              intro L _ w hi hL ⟨us, hus, u38, u39, u40, u41, u42, u43, u44, u45, u46, u47, u48, u49, u50, u51, u52, u53, u54, u55, u56, u57, u58, u59, u60, u61, u62, u63, u64, u65, u66, e, hF⟩ K hK
              subst hus
              have HF := Lib.hid hF
              clear hF
              obtain ⟨hb0, cm⟩ := HF.out.com
              have hnl : L 29 = false := no_last (fun h => HF.out.cl h 4 (by decide)) hi
              simp [Region.binds] at hL
              have g3 := HF.out.f3 hnl (by simp [hL])
              have hbl := hb0 hnl
              obtain rfl := g3
              subst e
              simp only [putsA, putsL, List.set_cons_zero, List.set_cons_succ]
              go_simp
              refine hK.out _ _ ⟨[u38, u39, u40, .pointer (some ⟨g, 0, none⟩), .pointer (some ⟨g, 5, none⟩), u43, u44, u45, u46, u47, u48, u49, u50, u51, u52, u53, u54, u55, u56, u57, u58, u59, u60, u61, u62, u63, u64, u65, u66], by kernel_rfl, _, _, _, _, _, _, _, _, _, _, _, _, _, _, _, _, _, _, _, _, _, _, _, _, _, _, _, _, _, rfl, ⟨fun _ => hbl, ⟨fun h => upd_of (cm.e13_12 h), fun h => upd_of (cm.e14_13 h), fun h => upd_of (cm.e15_6 h), fun h => upd_of (cm.e15_14 h), fun h => upd_of (cm.e21_15 h), fun h => upd_of (cm.e26_21 h), fun h => upd_of (cm.e27_26 h)⟩⟩, fun h => absurd (show L 29 = true from h) (by simp [hnl]),
                fun _ hj => HF.out.f0 hnl hj,
                fun _ hj => HF.out.f1 hnl hj,
                fun _ hj => HF.out.f2 hnl hj,
                fun _ hj => HF.out.f3 hnl hj,
                fun _ _ => rfl,
                fun _ hj => HF.out.f5 hnl hj,
                fun _ hj => HF.out.f6 hnl hj,
                fun _ hj => HF.out.f7 hnl hj,
                fun _ hj => HF.out.f8 hnl hj,
                fun _ hj => HF.out.f9 hnl hj,
                fun _ hj => HF.out.f10 hnl hj,
                fun _ hj => HF.out.f11 hnl hj,
                fun _ hj => HF.out.f12 hnl hj,
                fun _ hj => HF.out.f13 hnl hj,
                fun _ hj => HF.out.f14 hnl hj,
                fun _ hj => HF.out.f15 hnl hj,
                fun _ hj => HF.out.f16 hnl hj,
                fun _ hj => HF.out.f17 hnl hj,
                fun _ hj => HF.out.f18 hnl hj,
                fun _ hj => HF.out.f19 hnl hj,
                fun _ hj => HF.out.f20 hnl hj,
                fun _ hj => HF.out.f21 hnl hj,
                fun _ hj => HF.out.f22 hnl hj,
                fun _ hj => HF.out.f23 hnl hj,
                fun _ hj => HF.out.f24 hnl hj,
                fun _ hj => HF.out.f25 hnl hj,
                fun _ hj => HF.out.f26 hnl hj,
                fun _ hj => HF.out.f27 hnl hj,
                fun _ hj => HF.out.f28 hnl hj,
                fun hj => absurd (show L 29 = true from hj) (by simp [hnl])⟩
            · show Stp _ _ _ _ _ 5 _
              intro L _ w hi hL ⟨us, hus, u38, u39, u40, u41, u42, u43, u44, u45, u46, u47, u48, u49, u50, u51, u52, u53, u54, u55, u56, u57, u58, u59, u60, u61, u62, u63, u64, u65, u66, e, hF⟩ K hK
              subst hus
              have HF := Lib.hid hF
              clear hF
              obtain ⟨hb0, cm⟩ := HF.out.com
              have hnl : L 29 = false := no_last (fun h => HF.out.cl h 5 (by decide)) hi
              simp [Region.binds] at hL
              have g4 := HF.out.f4 hnl (by simp [hL])
              have hbl := hb0 hnl
              obtain rfl := g4
              have c0 := (hbl.cell (p := ⟨g, 5, none⟩) hgw).trans y5
              subst e
              simp only [putsA, putsL, List.set_cons_zero, List.set_cons_succ]
              go_simp
              refine hK.out _ _ ⟨[u38, u39, u40, u41, .pointer (some ⟨g, 5, none⟩), .slice nA N0.length nC, u44, u45, u46, u47, u48, u49, u50, u51, u52, u53, u54, u55, u56, u57, u58, u59, u60, u61, u62, u63, u64, u65, u66], by kernel_rfl, _, _, _, _, _, _, _, _, _, _, _, _, _, _, _, _, _, _, _, _, _, _, _, _, _, _, _, _, _, rfl, ⟨fun _ => hbl, ⟨fun h => upd_of (cm.e13_12 h), fun h => upd_of (cm.e14_13 h), fun h => upd_of (cm.e15_6 h), fun h => upd_of (cm.e15_14 h), fun h => upd_of (cm.e21_15 h), fun h => upd_of (cm.e26_21 h), fun h => upd_of (cm.e27_26 h)⟩⟩, fun h => absurd (show L 29 = true from h) (by simp [hnl]),
                fun _ hj => HF.out.f0 hnl hj,
                fun _ hj => HF.out.f1 hnl hj,
                fun _ hj => HF.out.f2 hnl hj,
                fun _ hj => HF.out.f3 hnl hj,
                fun _ hj => HF.out.f4 hnl hj,
                fun _ _ => rfl,
                fun _ hj => HF.out.f6 hnl hj,
                fun _ hj => HF.out.f7 hnl hj,
                fun _ hj => HF.out.f8 hnl hj,
                fun _ hj => HF.out.f9 hnl hj,
                fun _ hj => HF.out.f10 hnl hj,
                fun _ hj => HF.out.f11 hnl hj,
                fun _ hj => HF.out.f12 hnl hj,
                fun _ hj => HF.out.f13 hnl hj,
                fun _ hj => HF.out.f14 hnl hj,
                fun _ hj => HF.out.f15 hnl hj,
                fun _ hj => HF.out.f16 hnl hj,
                fun _ hj => HF.out.f17 hnl hj,
                fun _ hj => HF.out.f18 hnl hj,
                fun _ hj => HF.out.f19 hnl hj,
                fun _ hj => HF.out.f20 hnl hj,
                fun _ hj => HF.out.f21 hnl hj,
                fun _ hj => HF.out.f22 hnl hj,
                fun _ hj => HF.out.f23 hnl hj,
                fun _ hj => HF.out.f24 hnl hj,
                fun _ hj => HF.out.f25 hnl hj,
                fun _ hj => HF.out.f26 hnl hj,
                fun _ hj => HF.out.f27 hnl hj,
                fun _ hj => HF.out.f28 hnl hj,
                fun hj => absurd (show L 29 = true from hj) (by simp [hnl])⟩
            · show Stp _ _ _ _ _ 6 _
              intro L _ w hi hL ⟨us, hus, u38, u39, u40, u41, u42, u43, u44, u45, u46, u47, u48, u49, u50, u51, u52, u53, u54, u55, u56, u57, u58, u59, u60, u61, u62, u63, u64, u65, u66, e, hF⟩ K hK
              subst hus
              have HF := Lib.hid hF
              clear hF
              obtain ⟨hb0, cm⟩ := HF.out.com
              have hnl : L 29 = false := no_last (fun h => HF.out.cl h 6 (by decide)) hi
              simp [Region.binds] at hL
              have g1 := HF.out.f1 hnl (by simp [hL])
              have g5 := HF.out.f5 hnl (by simp [hL])
              have hbl := hb0 hnl
              obtain rfl := g5
              obtain ⟨b, rfl, o1⟩ := g1 hi
              have hsl := HNs.out.below hbl
              refine step_app0 fitEL w rfl (.tmp 39) (.tmp 43) rfl w3.heap.size b (by rewrite [e]; kernel_rfl) o1 (.slice nA N0.length nC) N0 (by rewrite [e]; kernel_rfl) hsl (by omega) hbl.size rfl ?_
              intro A6 c6 w' o6 hb'
              refine hK.out _ _ ⟨[u38, .slice (some ⟨b, 0, none⟩) 0 0, u40, u41, u42, .slice nA N0.length nC, .slice A6 N0.length c6, u45, u46, u47, u48, u49, u50, u51, u52, u53, u54, u55, u56, u57, u58, u59, u60, u61, u62, u63, u64, u65, u66], by rewrite [e]; kernel_rfl, _, _, _, _, _, _, _, _, _, _, _, _, _, _, _, _, _, _, _, _, _, _, _, _, _, _, _, _, _, rfl, ⟨fun _ => Below.step hb' hbl.size hbl, ⟨fun h => upd_of (cm.e13_12 h), fun h => upd_of (cm.e14_13 h), fun h => upd_of (cm.e15_6 h), fun h => upd_of (cm.e15_14 h), fun h => upd_of (cm.e21_15 h), fun h => upd_of (cm.e26_21 h), fun h => upd_of (cm.e27_26 h)⟩⟩, fun h => absurd (show L 29 = true from h) (by simp [hnl]),
                fun _ hj => HF.out.f0 hnl hj,
                fun _ _ h => absurd h (by simp),
                fun _ hj => HF.out.f2 hnl hj,
                fun _ hj => HF.out.f3 hnl hj,
                fun _ hj => HF.out.f4 hnl hj,
                fun _ hj => HF.out.f5 hnl hj,
                fun _ _ => ⟨fun _ => o6, _, _, rfl⟩,
                fun _ hj => HF.out.f7 hnl hj,
                fun _ hj => HF.out.f8 hnl hj,
                fun _ hj => HF.out.f9 hnl hj,
                fun _ hj => HF.out.f10 hnl hj,
                fun _ hj => OneB.ev (HF.out.f11 hnl hj) (hb'),
                fun _ hj => HF.out.f12 hnl hj,
                fun _ hj => HF.out.f13 hnl hj,
                fun _ hj => OneL.ev (HF.out.f14 hnl hj) (hb'),
                fun _ hj => GotL.ev (HF.out.f15 hnl hj) (hb'),
                fun _ hj => Emp2.ev (HF.out.f16 hnl hj) (hb'),
                fun _ hj => HF.out.f17 hnl hj,
                fun _ hj => HF.out.f18 hnl hj,
                fun _ hj => HF.out.f19 hnl hj,
                fun _ hj => HF.out.f20 hnl hj,
                fun _ hj => ev21 (HF.out.f21 hnl hj) (hb'),
                fun _ hj => HF.out.f22 hnl hj,
                fun _ hj => HF.out.f23 hnl hj,
                fun _ hj => HF.out.f24 hnl hj,
                fun _ hj => OneI.ev (HF.out.f25 hnl hj) (hb'),
                fun _ hj => GotI.ev (HF.out.f26 hnl hj) (hb'),
                fun _ hj => HF.out.f27 hnl hj,
                fun _ hj => HF.out.f28 hnl hj,
                fun hj => absurd (show L 29 = true from hj) (by simp [hnl])⟩
            · show Stp _ _ _ _ _ 7 _
              intro L _ w hi hL ⟨us, hus, u38, u39, u40, u41, u42, u43, u44, u45, u46, u47, u48, u49, u50, u51, u52, u53, u54, u55, u56, u57, u58, u59, u60, u61, u62, u63, u64, u65, u66, e, hF⟩ K hK
              subst hus
              have HF := Lib.hid hF
              clear hF
              obtain ⟨hb0, cm⟩ := HF.out.com
              have hnl : L 29 = false := no_last (fun h => HF.out.cl h 7 (by decide)) hi
              have hbl := hb0 hnl
              subst e
              simp only [putsA, putsL, List.set_cons_zero, List.set_cons_succ]
              go_simp
              refine hK.out _ _ ⟨[u38, u39, u40, u41, u42, u43, u44, .slice (some ⟨g, 0, none⟩) n cc, u46, u47, u48, u49, u50, u51, u52, u53, u54, u55, u56, u57, u58, u59, u60, u61, u62, u63, u64, u65, u66], by kernel_rfl, _, _, _, _, _, _, _, _, _, _, _, _, _, _, _, _, _, _, _, _, _, _, _, _, _, _, _, _, _, rfl, ⟨fun _ => hbl, ⟨fun h => upd_of (cm.e13_12 h), fun h => upd_of (cm.e14_13 h), fun h => upd_of (cm.e15_6 h), fun h => upd_of (cm.e15_14 h), fun h => upd_of (cm.e21_15 h), fun h => upd_of (cm.e26_21 h), fun h => upd_of (cm.e27_26 h)⟩⟩, fun h => absurd (show L 29 = true from h) (by simp [hnl]),
                fun _ hj => HF.out.f0 hnl hj,
                fun _ hj => HF.out.f1 hnl hj,
                fun _ hj => HF.out.f2 hnl hj,
                fun _ hj => HF.out.f3 hnl hj,
                fun _ hj => HF.out.f4 hnl hj,
                fun _ hj => HF.out.f5 hnl hj,
                fun _ hj => HF.out.f6 hnl hj,
                fun _ _ => rfl,
                fun _ hj => HF.out.f8 hnl hj,
                fun _ hj => HF.out.f9 hnl hj,
                fun _ hj => HF.out.f10 hnl hj,
                fun _ hj => HF.out.f11 hnl hj,
                fun _ hj => HF.out.f12 hnl hj,
                fun _ hj => HF.out.f13 hnl hj,
                fun _ hj => HF.out.f14 hnl hj,
                fun _ hj => HF.out.f15 hnl hj,
                fun _ hj => HF.out.f16 hnl hj,
                fun _ hj => HF.out.f17 hnl hj,
                fun _ hj => HF.out.f18 hnl hj,
                fun _ hj => HF.out.f19 hnl hj,
                fun _ hj => HF.out.f20 hnl hj,
                fun _ hj => HF.out.f21 hnl hj,
                fun _ hj => HF.out.f22 hnl hj,
                fun _ hj => HF.out.f23 hnl hj,
                fun _ hj => HF.out.f24 hnl hj,
                fun _ hj => HF.out.f25 hnl hj,
                fun _ hj => HF.out.f26 hnl hj,
                fun _ hj => HF.out.f27 hnl hj,
                fun _ hj => HF.out.f28 hnl hj,
                fun hj => absurd (show L 29 = true from hj) (by simp [hnl])⟩
            · show Stp _ _ _ _ _ 8 _
              intro L _ w hi hL ⟨us, hus, u38, u39, u40, u41, u42, u43, u44, u45, u46, u47, u48, u49, u50, u51, u52, u53, u54, u55, u56, u57, u58, u59, u60, u61, u62, u63, u64, u65, u66, e, hF⟩ K hK
              subst hus
              have HF := Lib.hid hF
              clear hF
              obtain ⟨hb0, cm⟩ := HF.out.com
              have hnl : L 29 = false := no_last (fun h => HF.out.cl h 8 (by decide)) hi
              simp [Region.binds] at hL
              have g7 := HF.out.f7 hnl (by simp [hL])
              have hbl := hb0 hnl
              obtain rfl := g7
              subst e
              simp only [putsA, putsL, List.set_cons_zero, List.set_cons_succ]
              go_simp
              refine hK.out _ _ ⟨[u38, u39, u40, u41, u42, u43, u44, .slice (some ⟨g, 0, none⟩) n cc, .int .i64 (n : Int), u47, u48, u49, u50, u51, u52, u53, u54, u55, u56, u57, u58, u59, u60, u61, u62, u63, u64, u65, u66], by kernel_rfl, _, _, _, _, _, _, _, _, _, _, _, _, _, _, _, _, _, _, _, _, _, _, _, _, _, _, _, _, _, rfl, ⟨fun _ => hbl, ⟨fun h => upd_of (cm.e13_12 h), fun h => upd_of (cm.e14_13 h), fun h => upd_of (cm.e15_6 h), fun h => upd_of (cm.e15_14 h), fun h => upd_of (cm.e21_15 h), fun h => upd_of (cm.e26_21 h), fun h => upd_of (cm.e27_26 h)⟩⟩, fun h => absurd (show L 29 = true from h) (by simp [hnl]),
                fun _ hj => HF.out.f0 hnl hj,
                fun _ hj => HF.out.f1 hnl hj,
                fun _ hj => HF.out.f2 hnl hj,
                fun _ hj => HF.out.f3 hnl hj,
                fun _ hj => HF.out.f4 hnl hj,
                fun _ hj => HF.out.f5 hnl hj,
                fun _ hj => HF.out.f6 hnl hj,
                fun _ hj => HF.out.f7 hnl hj,
                fun _ _ => rfl,
                fun _ hj => HF.out.f9 hnl hj,
                fun _ hj => HF.out.f10 hnl hj,
                fun _ hj => HF.out.f11 hnl hj,
                fun _ hj => HF.out.f12 hnl hj,
                fun _ hj => HF.out.f13 hnl hj,
                fun _ hj => HF.out.f14 hnl hj,
                fun _ hj => HF.out.f15 hnl hj,
                fun _ hj => HF.out.f16 hnl hj,
                fun _ hj => HF.out.f17 hnl hj,
                fun _ hj => HF.out.f18 hnl hj,
                fun _ hj => HF.out.f19 hnl hj,
                fun _ hj => HF.out.f20 hnl hj,
                fun _ hj => HF.out.f21 hnl hj,
                fun _ hj => HF.out.f22 hnl hj,
                fun _ hj => HF.out.f23 hnl hj,
                fun _ hj => HF.out.f24 hnl hj,
                fun _ hj => HF.out.f25 hnl hj,
                fun _ hj => HF.out.f26 hnl hj,
                fun _ hj => HF.out.f27 hnl hj,
                fun _ hj => HF.out.f28 hnl hj,
                fun hj => absurd (show L 29 = true from hj) (by simp [hnl])⟩
            · show Stp _ _ _ _ _ 9 _
              intro L _ w hi hL ⟨us, hus, u38, u39, u40, u41, u42, u43, u44, u45, u46, u47, u48, u49, u50, u51, u52, u53, u54, u55, u56, u57, u58, u59, u60, u61, u62, u63, u64, u65, u66, e, hF⟩ K hK
              subst hus
              have HF := Lib.hid hF
              clear hF
              obtain ⟨hb0, cm⟩ := HF.out.com
              have hnl : L 29 = false := no_last (fun h => HF.out.cl h 9 (by decide)) hi
              simp [Region.binds] at hL
              have g8 := HF.out.f8 hnl (by simp [hL])
              have hbl := hb0 hnl
              obtain rfl := g8
              subst e
              simp only [putsA, putsL, List.set_cons_zero, List.set_cons_succ]
              go_simp
              refine hK.out _ _ ⟨[u38, u39, u40, u41, u42, u43, u44, u45, .int .i64 (n : Int), .int .i64 (97 + (n : Int)), u48, u49, u50, u51, u52, u53, u54, u55, u56, u57, u58, u59, u60, u61, u62, u63, u64, u65, u66], by kernel_rfl, _, _, _, _, _, _, _, _, _, _, _, _, _, _, _, _, _, _, _, _, _, _, _, _, _, _, _, _, _, rfl, ⟨fun _ => hbl, ⟨fun h => upd_of (cm.e13_12 h), fun h => upd_of (cm.e14_13 h), fun h => upd_of (cm.e15_6 h), fun h => upd_of (cm.e15_14 h), fun h => upd_of (cm.e21_15 h), fun h => upd_of (cm.e26_21 h), fun h => upd_of (cm.e27_26 h)⟩⟩, fun h => absurd (show L 29 = true from h) (by simp [hnl]),
                fun _ hj => HF.out.f0 hnl hj,
                fun _ hj => HF.out.f1 hnl hj,
                fun _ hj => HF.out.f2 hnl hj,
                fun _ hj => HF.out.f3 hnl hj,
                fun _ hj => HF.out.f4 hnl hj,
                fun _ hj => HF.out.f5 hnl hj,
                fun _ hj => HF.out.f6 hnl hj,
                fun _ hj => HF.out.f7 hnl hj,
                fun _ hj => HF.out.f8 hnl hj,
                fun _ _ => rfl,
                fun _ hj => HF.out.f10 hnl hj,
                fun _ hj => HF.out.f11 hnl hj,
                fun _ hj => HF.out.f12 hnl hj,
                fun _ hj => HF.out.f13 hnl hj,
                fun _ hj => HF.out.f14 hnl hj,
                fun _ hj => HF.out.f15 hnl hj,
                fun _ hj => HF.out.f16 hnl hj,
                fun _ hj => HF.out.f17 hnl hj,
                fun _ hj => HF.out.f18 hnl hj,
                fun _ hj => HF.out.f19 hnl hj,
                fun _ hj => HF.out.f20 hnl hj,
                fun _ hj => HF.out.f21 hnl hj,
                fun _ hj => HF.out.f22 hnl hj,
                fun _ hj => HF.out.f23 hnl hj,
                fun _ hj => HF.out.f24 hnl hj,
                fun _ hj => HF.out.f25 hnl hj,
                fun _ hj => HF.out.f26 hnl hj,
                fun _ hj => HF.out.f27 hnl hj,
                fun _ hj => HF.out.f28 hnl hj,
                fun hj => absurd (show L 29 = true from hj) (by simp [hnl])⟩
            · show Stp _ _ _ _ _ 10 _
              intro L _ w hi hL ⟨us, hus, u38, u39, u40, u41, u42, u43, u44, u45, u46, u47, u48, u49, u50, u51, u52, u53, u54, u55, u56, u57, u58, u59, u60, u61, u62, u63, u64, u65, u66, e, hF⟩ K hK
              subst hus
              have HF := Lib.hid hF
              clear hF
              obtain ⟨hb0, cm⟩ := HF.out.com
              have hnl : L 29 = false := no_last (fun h => HF.out.cl h 10 (by decide)) hi
              simp [Region.binds] at hL
              have g9 := HF.out.f9 hnl (by simp [hL])
              have hbl := hb0 hnl
              obtain rfl := g9
              subst e
              simp only [putsA, putsL, List.set_cons_zero, List.set_cons_succ]
              go_simp
              refine hK.out _ _ ⟨[u38, u39, u40, u41, u42, u43, u44, u45, u46, .int .i64 (97 + (n : Int)), .int .u8 (IntKind.u8.wrap (97 + (n : Int))), u49, u50, u51, u52, u53, u54, u55, u56, u57, u58, u59, u60, u61, u62, u63, u64, u65, u66], by kernel_rfl, _, _, _, _, _, _, _, _, _, _, _, _, _, _, _, _, _, _, _, _, _, _, _, _, _, _, _, _, _, rfl, ⟨fun _ => hbl, ⟨fun h => upd_of (cm.e13_12 h), fun h => upd_of (cm.e14_13 h), fun h => upd_of (cm.e15_6 h), fun h => upd_of (cm.e15_14 h), fun h => upd_of (cm.e21_15 h), fun h => upd_of (cm.e26_21 h), fun h => upd_of (cm.e27_26 h)⟩⟩, fun h => absurd (show L 29 = true from h) (by simp [hnl]),
                fun _ hj => HF.out.f0 hnl hj,
                fun _ hj => HF.out.f1 hnl hj,
                fun _ hj => HF.out.f2 hnl hj,
                fun _ hj => HF.out.f3 hnl hj,
                fun _ hj => HF.out.f4 hnl hj,
                fun _ hj => HF.out.f5 hnl hj,
                fun _ hj => HF.out.f6 hnl hj,
                fun _ hj => HF.out.f7 hnl hj,
                fun _ hj => HF.out.f8 hnl hj,
                fun _ hj => HF.out.f9 hnl hj,
                fun _ _ => ⟨_, rfl⟩,
                fun _ hj => HF.out.f11 hnl hj,
                fun _ hj => HF.out.f12 hnl hj,
                fun _ hj => HF.out.f13 hnl hj,
                fun _ hj => HF.out.f14 hnl hj,
                fun _ hj => HF.out.f15 hnl hj,
                fun _ hj => HF.out.f16 hnl hj,
                fun _ hj => HF.out.f17 hnl hj,
                fun _ hj => HF.out.f18 hnl hj,
                fun _ hj => HF.out.f19 hnl hj,
                fun _ hj => HF.out.f20 hnl hj,
                fun _ hj => HF.out.f21 hnl hj,
                fun _ hj => HF.out.f22 hnl hj,
                fun _ hj => HF.out.f23 hnl hj,
                fun _ hj => HF.out.f24 hnl hj,
                fun _ hj => HF.out.f25 hnl hj,
                fun _ hj => HF.out.f26 hnl hj,
                fun _ hj => HF.out.f27 hnl hj,
                fun _ hj => HF.out.f28 hnl hj,
                fun hj => absurd (show L 29 = true from hj) (by simp [hnl])⟩
            · show Stp _ _ _ _ _ 11 _
              intro L _ w hi hL ⟨us, hus, u38, u39, u40, u41, u42, u43, u44, u45, u46, u47, u48, u49, u50, u51, u52, u53, u54, u55, u56, u57, u58, u59, u60, u61, u62, u63, u64, u65, u66, e, hF⟩ K hK
              subst hus
              have HF := Lib.hid hF
              clear hF
              obtain ⟨hb0, cm⟩ := HF.out.com
              have hnl : L 29 = false := no_last (fun h => HF.out.cl h 11 (by decide)) hi
              simp [Region.binds] at hL
              have g10 := HF.out.f10 hnl (by simp [hL])
              have hbl := hb0 hnl
              obtain ⟨x, rfl⟩ := g10
              subst e
              simp only [putsA, putsL, List.set_cons_zero, List.set_cons_succ]
              go_simp
              refine hK.out _ _ ⟨[u38, u39, u40, u41, u42, u43, u44, u45, u46, u47, .int .u8 x, .slice (some ⟨w.heap.size, 0, none⟩) 1 1, u50, u51, u52, u53, u54, u55, u56, u57, u58, u59, u60, u61, u62, u63, u64, u65, u66], by kernel_rfl, _, _, _, _, _, _, _, _, _, _, _, _, _, _, _, _, _, _, _, _, _, _, _, _, _, _, _, _, _, rfl, ⟨fun _ => Below.alloc hbl hbl.size _, ⟨fun h => upd_of (cm.e13_12 h), fun h => upd_of (cm.e14_13 h), fun h => upd_of (cm.e15_6 h), fun h => upd_of (cm.e15_14 h), fun h => upd_of (cm.e21_15 h), fun h => upd_of (cm.e26_21 h), fun h => upd_of (cm.e27_26 h)⟩⟩, fun h => absurd (show L 29 = true from h) (by simp [hnl]),
                fun _ hj => HF.out.f0 hnl hj,
                fun _ hj => Emp1.ev (HF.out.f1 hnl hj) (Below.alloc (Below.refl _ _) (Nat.le_refl _) _),
                fun _ hj => HF.out.f2 hnl hj,
                fun _ hj => HF.out.f3 hnl hj,
                fun _ hj => HF.out.f4 hnl hj,
                fun _ hj => HF.out.f5 hnl hj,
                fun _ hj => ev6 (HF.out.f6 hnl hj) (Below.alloc (Below.refl _ _) (Nat.le_refl _) _),
                fun _ hj => HF.out.f7 hnl hj,
                fun _ hj => HF.out.f8 hnl hj,
                fun _ hj => HF.out.f9 hnl hj,
                fun _ hj => HF.out.f10 hnl hj,
                fun _ _ _ => ⟨_, x, rfl, by simp, by go_simp⟩,
                fun _ hj => HF.out.f12 hnl hj,
                fun _ hj => HF.out.f13 hnl hj,
                fun _ hj => OneL.ev (HF.out.f14 hnl hj) (Below.alloc (Below.refl _ _) (Nat.le_refl _) _),
                fun _ hj => GotL.ev (HF.out.f15 hnl hj) (Below.alloc (Below.refl _ _) (Nat.le_refl _) _),
                fun _ hj => Emp2.ev (HF.out.f16 hnl hj) (Below.alloc (Below.refl _ _) (Nat.le_refl _) _),
                fun _ hj => HF.out.f17 hnl hj,
                fun _ hj => HF.out.f18 hnl hj,
                fun _ hj => HF.out.f19 hnl hj,
                fun _ hj => HF.out.f20 hnl hj,
                fun _ hj => ev21 (HF.out.f21 hnl hj) (Below.alloc (Below.refl _ _) (Nat.le_refl _) _),
                fun _ hj => HF.out.f22 hnl hj,
                fun _ hj => HF.out.f23 hnl hj,
                fun _ hj => HF.out.f24 hnl hj,
                fun _ hj => OneI.ev (HF.out.f25 hnl hj) (Below.alloc (Below.refl _ _) (Nat.le_refl _) _),
                fun _ hj => GotI.ev (HF.out.f26 hnl hj) (Below.alloc (Below.refl _ _) (Nat.le_refl _) _),
                fun _ hj => HF.out.f27 hnl hj,
                fun _ hj => HF.out.f28 hnl hj,
                fun hj => absurd (show L 29 = true from hj) (by simp [hnl])⟩
            · show Stp _ _ _ _ _ 12 _
              intro L _ w hi hL ⟨us, hus, u38, u39, u40, u41, u42, u43, u44, u45, u46, u47, u48, u49, u50, u51, u52, u53, u54, u55, u56, u57, u58, u59, u60, u61, u62, u63, u64, u65, u66, e, hF⟩ K hK
              subst hus
              have HF := Lib.hid hF
              clear hF
              obtain ⟨hb0, cm⟩ := HF.out.com
              have hnl : L 29 = false := no_last (fun h => HF.out.cl h 12 (by decide)) hi
              simp [Region.binds] at hL
              have g11 := HF.out.f11 hnl (by simp [hL])
              have hbl := hb0 hnl
              obtain ⟨b, x, rfl, k1, k2⟩ := g11 hi
              have hcv := run_convert_bytes_arg (P := Tryz.prog) w 22 5 Tryz.underlying22 Tryz.underlying5 b 0 1 1 [x] rfl (fun i hi => by (obtain rfl : i = 0 := by omega); exact k2) 9 Tryz.underlying9
              subst e
              simp only [putsA, putsL, List.set_cons_zero, List.set_cons_succ]
              go_simp
              refine hK.out _ _ ⟨[u38, u39, u40, u41, u42, u43, u44, u45, u46, u47, u48, .slice (some ⟨b, 0, none⟩) 1 1, .string (strOfNums [x]), u51, u52, u53, u54, u55, u56, u57, u58, u59, u60, u61, u62, u63, u64, u65, u66], by kernel_rfl, _, _, _, _, _, _, _, _, _, _, _, _, _, _, _, _, _, _, _, _, _, _, _, _, _, _, _, _, _, rfl, ⟨fun _ => hbl, ⟨fun h => upd_of (cm.e13_12 h), fun h => upd_of (cm.e14_13 h), fun h => upd_of (cm.e15_6 h), fun h => upd_of (cm.e15_14 h), fun h => upd_of (cm.e21_15 h), fun h => upd_of (cm.e26_21 h), fun h => upd_of (cm.e27_26 h)⟩⟩, fun h => absurd (show L 29 = true from h) (by simp [hnl]),
                fun _ hj => HF.out.f0 hnl hj,
                fun _ hj => HF.out.f1 hnl hj,
                fun _ hj => HF.out.f2 hnl hj,
                fun _ hj => HF.out.f3 hnl hj,
                fun _ hj => HF.out.f4 hnl hj,
                fun _ hj => HF.out.f5 hnl hj,
                fun _ hj => HF.out.f6 hnl hj,
                fun _ hj => HF.out.f7 hnl hj,
                fun _ hj => HF.out.f8 hnl hj,
                fun _ hj => HF.out.f9 hnl hj,
                fun _ hj => HF.out.f10 hnl hj,
                fun _ _ h => absurd h (by simp),
                fun _ _ => ⟨_, rfl, by rw [strOfNums_size]; rfl⟩,
                fun _ hj => HF.out.f13 hnl hj,
                fun _ hj => HF.out.f14 hnl hj,
                fun _ hj => HF.out.f15 hnl hj,
                fun _ hj => HF.out.f16 hnl hj,
                fun _ hj => HF.out.f17 hnl hj,
                fun _ hj => HF.out.f18 hnl hj,
                fun _ hj => HF.out.f19 hnl hj,
                fun _ hj => HF.out.f20 hnl hj,
                fun _ hj => HF.out.f21 hnl hj,
                fun _ hj => HF.out.f22 hnl hj,
                fun _ hj => HF.out.f23 hnl hj,
                fun _ hj => HF.out.f24 hnl hj,
                fun _ hj => HF.out.f25 hnl hj,
                fun _ hj => HF.out.f26 hnl hj,
                fun _ hj => HF.out.f27 hnl hj,
                fun _ hj => HF.out.f28 hnl hj,
                fun hj => absurd (show L 29 = true from hj) (by simp [hnl])⟩
            · show Stp _ _ _ _ _ 13 _
              intro L _ w hi hL ⟨us, hus, u38, u39, u40, u41, u42, u43, u44, u45, u46, u47, u48, u49, u50, u51, u52, u53, u54, u55, u56, u57, u58, u59, u60, u61, u62, u63, u64, u65, u66, e, hF⟩ K hK
              subst hus
              have HF := Lib.hid hF
              clear hF
              obtain ⟨hb0, cm⟩ := HF.out.com
              have hnl : L 29 = false := no_last (fun h => HF.out.cl h 13 (by decide)) hi
              simp [Region.binds] at hL
              have g12 := HF.out.f12 hnl (by simp [hL])
              have hbl := hb0 hnl
              obtain ⟨s, rfl, hs⟩ := g12
              subst e
              simp only [putsA, putsL, List.set_cons_zero, List.set_cons_succ]
              go_simp
              refine hK.out _ _ ⟨[u38, u39, u40, u41, u42, u43, u44, u45, u46, u47, u48, u49, .string s, .string (mk ((⟨#[122, 122]⟩ : ByteArray) ++ s).data.toList), u52, u53, u54, u55, u56, u57, u58, u59, u60, u61, u62, u63, u64, u65, u66], by kernel_rfl, _, _, _, _, _, _, _, _, _, _, _, _, _, _, _, _, _, _, _, _, _, _, _, _, _, _, _, _, _, rfl, ⟨fun _ => hbl, ⟨fun _ => upd_of (by simp [hL]), fun h => upd_of (cm.e14_13 h), fun h => upd_of (cm.e15_6 h), fun h => upd_of (cm.e15_14 h), fun h => upd_of (cm.e21_15 h), fun h => upd_of (cm.e26_21 h), fun h => upd_of (cm.e27_26 h)⟩⟩, fun h => absurd (show L 29 = true from h) (by simp [hnl]),
                fun _ hj => HF.out.f0 hnl hj,
                fun _ hj => HF.out.f1 hnl hj,
                fun _ hj => HF.out.f2 hnl hj,
                fun _ hj => HF.out.f3 hnl hj,
                fun _ hj => HF.out.f4 hnl hj,
                fun _ hj => HF.out.f5 hnl hj,
                fun _ hj => HF.out.f6 hnl hj,
                fun _ hj => HF.out.f7 hnl hj,
                fun _ hj => HF.out.f8 hnl hj,
                fun _ hj => HF.out.f9 hnl hj,
                fun _ hj => HF.out.f10 hnl hj,
                fun _ hj => HF.out.f11 hnl hj,
                fun _ hj => HF.out.f12 hnl hj,
                fun _ _ => ⟨_, rfl, by rw [Array.length_toList]; show ((⟨#[122, 122]⟩ : ByteArray) ++ s).size ≤ 10; rw [ByteArray.size_append, hs]; decide⟩,
                fun _ hj => HF.out.f14 hnl hj,
                fun _ hj => HF.out.f15 hnl hj,
                fun _ hj => HF.out.f16 hnl hj,
                fun _ hj => HF.out.f17 hnl hj,
                fun _ hj => HF.out.f18 hnl hj,
                fun _ hj => HF.out.f19 hnl hj,
                fun _ hj => HF.out.f20 hnl hj,
                fun _ hj => HF.out.f21 hnl hj,
                fun _ hj => HF.out.f22 hnl hj,
                fun _ hj => HF.out.f23 hnl hj,
                fun _ hj => HF.out.f24 hnl hj,
                fun _ hj => HF.out.f25 hnl hj,
                fun _ hj => HF.out.f26 hnl hj,
                fun _ hj => HF.out.f27 hnl hj,
                fun _ hj => HF.out.f28 hnl hj,
                fun hj => absurd (show L 29 = true from hj) (by simp [hnl])⟩
            · show Stp _ _ _ _ _ 14 _
              intro L _ w hi hL ⟨us, hus, u38, u39, u40, u41, u42, u43, u44, u45, u46, u47, u48, u49, u50, u51, u52, u53, u54, u55, u56, u57, u58, u59, u60, u61, u62, u63, u64, u65, u66, e, hF⟩ K hK
              subst hus
              have HF := Lib.hid hF
              clear hF
              obtain ⟨hb0, cm⟩ := HF.out.com
              have hnl : L 29 = false := no_last (fun h => HF.out.cl h 14 (by decide)) hi
              simp [Region.binds] at hL
              have g13 := HF.out.f13 hnl (by simp [hL])
              have hbl := hb0 hnl
              obtain ⟨s, rfl, hs⟩ := g13
              subst e
              simp only [putsA, putsL, List.set_cons_zero, List.set_cons_succ]
              go_simp
              refine hK.out _ _ ⟨[u38, u39, u40, u41, u42, u43, u44, u45, u46, u47, u48, u49, u50, .string (mk s), .slice (some ⟨w.heap.size, 0, none⟩) 1 1, u53, u54, u55, u56, u57, u58, u59, u60, u61, u62, u63, u64, u65, u66], by kernel_rfl, _, _, _, _, _, _, _, _, _, _, _, _, _, _, _, _, _, _, _, _, _, _, _, _, _, _, _, _, _, rfl, ⟨fun _ => Below.alloc hbl hbl.size _, ⟨fun h => upd_of (cm.e13_12 h), fun _ => upd_of (by simp [hL]), fun h => upd_of (cm.e15_6 h), fun h => upd_of (cm.e15_14 h), fun h => upd_of (cm.e21_15 h), fun h => upd_of (cm.e26_21 h), fun h => upd_of (cm.e27_26 h)⟩⟩, fun h => absurd (show L 29 = true from h) (by simp [hnl]),
                fun _ hj => HF.out.f0 hnl hj,
                fun _ hj => Emp1.ev (HF.out.f1 hnl hj) (Below.alloc (Below.refl _ _) (Nat.le_refl _) _),
                fun _ hj => HF.out.f2 hnl hj,
                fun _ hj => HF.out.f3 hnl hj,
                fun _ hj => HF.out.f4 hnl hj,
                fun _ hj => HF.out.f5 hnl hj,
                fun _ hj => ev6 (HF.out.f6 hnl hj) (Below.alloc (Below.refl _ _) (Nat.le_refl _) _),
                fun _ hj => HF.out.f7 hnl hj,
                fun _ hj => HF.out.f8 hnl hj,
                fun _ hj => HF.out.f9 hnl hj,
                fun _ hj => HF.out.f10 hnl hj,
                fun _ hj => OneB.ev (HF.out.f11 hnl hj) (Below.alloc (Below.refl _ _) (Nat.le_refl _) _),
                fun _ hj => HF.out.f12 hnl hj,
                fun _ hj => HF.out.f13 hnl hj,
                fun _ _ _ => ⟨_, s, rfl, hs, ownG_lit rfl rfl hbl.size⟩,
                fun _ hj => GotL.ev (HF.out.f15 hnl hj) (Below.alloc (Below.refl _ _) (Nat.le_refl _) _),
                fun _ hj => Emp2.ev (HF.out.f16 hnl hj) (Below.alloc (Below.refl _ _) (Nat.le_refl _) _),
                fun _ hj => HF.out.f17 hnl hj,
                fun _ hj => HF.out.f18 hnl hj,
                fun _ hj => HF.out.f19 hnl hj,
                fun _ hj => HF.out.f20 hnl hj,
                fun _ hj => ev21 (HF.out.f21 hnl hj) (Below.alloc (Below.refl _ _) (Nat.le_refl _) _),
                fun _ hj => HF.out.f22 hnl hj,
                fun _ hj => HF.out.f23 hnl hj,
                fun _ hj => HF.out.f24 hnl hj,
                fun _ hj => OneI.ev (HF.out.f25 hnl hj) (Below.alloc (Below.refl _ _) (Nat.le_refl _) _),
                fun _ hj => GotI.ev (HF.out.f26 hnl hj) (Below.alloc (Below.refl _ _) (Nat.le_refl _) _),
                fun _ hj => HF.out.f27 hnl hj,
                fun _ hj => HF.out.f28 hnl hj,
                fun hj => absurd (show L 29 = true from hj) (by simp [hnl])⟩
            · show Stp _ _ _ _ _ 15 _
              intro L _ w hi hL ⟨us, hus, u38, u39, u40, u41, u42, u43, u44, u45, u46, u47, u48, u49, u50, u51, u52, u53, u54, u55, u56, u57, u58, u59, u60, u61, u62, u63, u64, u65, u66, e, hF⟩ K hK
              subst hus
              have HF := Lib.hid hF
              clear hF
              obtain ⟨hb0, cm⟩ := HF.out.com
              have hnl : L 29 = false := no_last (fun h => HF.out.cl h 15 (by decide)) hi
              simp [Region.binds] at hL
              have g6 := HF.out.f6 hnl (by simp [hL])
              have g14 := HF.out.f14 hnl (by simp [hL])
              have hbl := hb0 hnl
              obtain ⟨o6, A6, c6, rfl⟩ := g6
              have o6 := o6 hi
              obtain ⟨b, s, rfl, hs, o14⟩ := g14 hi
              refine step_appG1 fitEL w rfl (.tmp 44) (.tmp 52) rfl w3.heap.size (.slice A6 N0.length c6) N0 (by rewrite [e]; kernel_rfl) o6 (.slice (some ⟨b, 0, none⟩) 1 1) [s] (by rewrite [e]; kernel_rfl) (ownG_sl o14) (by simp; omega) hbl.size (N := N0.length + 1) (by simp) ?_
              intro A7 c7 w' ha hb'
              refine hK.out _ _ ⟨[u38, u39, u40, u41, u42, u43, .slice A6 N0.length c6, u45, u46, u47, u48, u49, u50, u51, .slice (some ⟨b, 0, none⟩) 1 1, .slice A7 (N0.length + 1) c7, u54, u55, u56, u57, u58, u59, u60, u61, u62, u63, u64, u65, u66], by rewrite [e]; kernel_rfl, _, _, _, _, _, _, _, _, _, _, _, _, _, _, _, _, _, _, _, _, _, _, _, _, _, _, _, _, _, rfl, ⟨fun _ => Below.trans hbl hb', ⟨fun h => upd_of (cm.e13_12 h), fun h => upd_of (cm.e14_13 h), fun _ => upd_of (by simp [hL]), fun _ => upd_of (by simp [hL]), fun h => upd_of (cm.e21_15 h), fun h => upd_of (cm.e26_21 h), fun h => upd_of (cm.e27_26 h)⟩⟩, fun h => absurd (show L 29 = true from h) (by simp [hnl]),
                fun _ hj => HF.out.f0 hnl hj,
                fun _ _ h => absurd (show L 6 = false from h) (by simp [hL]),
                fun _ hj => HF.out.f2 hnl hj,
                fun _ hj => HF.out.f3 hnl hj,
                fun _ hj => HF.out.f4 hnl hj,
                fun _ hj => HF.out.f5 hnl hj,
                fun _ _ => ⟨fun h => absurd h (by simp), _, _, rfl⟩,
                fun _ hj => HF.out.f7 hnl hj,
                fun _ hj => HF.out.f8 hnl hj,
                fun _ hj => HF.out.f9 hnl hj,
                fun _ hj => HF.out.f10 hnl hj,
                fun _ _ h => absurd (show L 12 = false from h) (by simp [cm.e13_12 (cm.e14_13 (show L 14 = true by simp [hL]))]),
                fun _ hj => HF.out.f12 hnl hj,
                fun _ hj => HF.out.f13 hnl hj,
                fun _ _ h => absurd h (by simp),
                fun _ _ => ⟨A7, c7, s, rfl, hs, ha.1⟩,
                fun _ hj => Emp2.kept (HF.out.f16 hnl hj) ha.2.1 o6,
                fun _ hj => HF.out.f17 hnl hj,
                fun _ hj => HF.out.f18 hnl hj,
                fun _ hj => HF.out.f19 hnl hj,
                fun _ hj => HF.out.f20 hnl hj,
                fun _ hj => ⟨TilI.kept (HF.out.f21 hnl hj).1 ha.2.1 o6, (HF.out.f21 hnl hj).2⟩,
                fun _ hj => HF.out.f22 hnl hj,
                fun _ hj => HF.out.f23 hnl hj,
                fun _ hj => HF.out.f24 hnl hj,
                fun _ hj => OneI.kept (HF.out.f25 hnl hj) ha.2.1 o6,
                fun _ hj => GotI.kept (HF.out.f26 hnl hj) ha.2.1 o6,
                fun _ hj => absurd (cm.e21_15 (cm.e26_21 (cm.e27_26 hj))) (by simp [show L 15 = false from hi]),
                fun _ hj => HF.out.f28 hnl hj,
                fun hj => absurd (show L 29 = true from hj) (by simp [hnl])⟩
            · show Stp _ _ _ _ _ 16 _
              intro L _ w hi hL ⟨us, hus, u38, u39, u40, u41, u42, u43, u44, u45, u46, u47, u48, u49, u50, u51, u52, u53, u54, u55, u56, u57, u58, u59, u60, u61, u62, u63, u64, u65, u66, e, hF⟩ K hK
              subst hus
              have HF := Lib.hid hF
              clear hF
              obtain ⟨hb0, cm⟩ := HF.out.com
              have hnl : L 29 = false := no_last (fun h => HF.out.cl h 16 (by decide)) hi
              have hbl := hb0 hnl
              subst e
              simp only [putsA, putsL, List.set_cons_zero, List.set_cons_succ]
              go_simp
              refine hK.out _ _ ⟨[u38, u39, u40, u41, u42, u43, u44, u45, u46, u47, u48, u49, u50, u51, u52, u53, .slice (some ⟨w.heap.size, 0, none⟩) 0 0, u55, u56, u57, u58, u59, u60, u61, u62, u63, u64, u65, u66], by kernel_rfl, _, _, _, _, _, _, _, _, _, _, _, _, _, _, _, _, _, _, _, _, _, _, _, _, _, _, _, _, _, rfl, ⟨fun _ => Below.alloc hbl hbl.size _, ⟨fun h => upd_of (cm.e13_12 h), fun h => upd_of (cm.e14_13 h), fun h => upd_of (cm.e15_6 h), fun h => upd_of (cm.e15_14 h), fun h => upd_of (cm.e21_15 h), fun h => upd_of (cm.e26_21 h), fun h => upd_of (cm.e27_26 h)⟩⟩, fun h => absurd (show L 29 = true from h) (by simp [hnl]),
                fun _ hj => HF.out.f0 hnl hj,
                fun _ hj => Emp1.ev (HF.out.f1 hnl hj) (Below.alloc (Below.refl _ _) (Nat.le_refl _) _),
                fun _ hj => HF.out.f2 hnl hj,
                fun _ hj => HF.out.f3 hnl hj,
                fun _ hj => HF.out.f4 hnl hj,
                fun _ hj => HF.out.f5 hnl hj,
                fun _ hj => ev6 (HF.out.f6 hnl hj) (Below.alloc (Below.refl _ _) (Nat.le_refl _) _),
                fun _ hj => HF.out.f7 hnl hj,
                fun _ hj => HF.out.f8 hnl hj,
                fun _ hj => HF.out.f9 hnl hj,
                fun _ hj => HF.out.f10 hnl hj,
                fun _ hj => OneB.ev (HF.out.f11 hnl hj) (Below.alloc (Below.refl _ _) (Nat.le_refl _) _),
                fun _ hj => HF.out.f12 hnl hj,
                fun _ hj => HF.out.f13 hnl hj,
                fun _ hj => OneL.ev (HF.out.f14 hnl hj) (Below.alloc (Below.refl _ _) (Nat.le_refl _) _),
                fun _ hj => GotL.ev (HF.out.f15 hnl hj) (Below.alloc (Below.refl _ _) (Nat.le_refl _) _),
                fun _ _ _ => ⟨_, rfl, ownG_empty _ rfl hbl.size⟩,
                fun _ hj => HF.out.f17 hnl hj,
                fun _ hj => HF.out.f18 hnl hj,
                fun _ hj => HF.out.f19 hnl hj,
                fun _ hj => HF.out.f20 hnl hj,
                fun _ hj => ev21 (HF.out.f21 hnl hj) (Below.alloc (Below.refl _ _) (Nat.le_refl _) _),
                fun _ hj => HF.out.f22 hnl hj,
                fun _ hj => HF.out.f23 hnl hj,
                fun _ hj => HF.out.f24 hnl hj,
                fun _ hj => OneI.ev (HF.out.f25 hnl hj) (Below.alloc (Below.refl _ _) (Nat.le_refl _) _),
                fun _ hj => GotI.ev (HF.out.f26 hnl hj) (Below.alloc (Below.refl _ _) (Nat.le_refl _) _),
                fun _ hj => HF.out.f27 hnl hj,
                fun _ hj => HF.out.f28 hnl hj,
                fun hj => absurd (show L 29 = true from hj) (by simp [hnl])⟩
            · show Stp _ _ _ _ _ 17 _
              intro L _ w hi hL ⟨us, hus, u38, u39, u40, u41, u42, u43, u44, u45, u46, u47, u48, u49, u50, u51, u52, u53, u54, u55, u56, u57, u58, u59, u60, u61, u62, u63, u64, u65, u66, e, hF⟩ K hK
              subst hus
              have HF := Lib.hid hF
              clear hF
              obtain ⟨hb0, cm⟩ := HF.out.com
              have hnl : L 29 = false := no_last (fun h => HF.out.cl h 17 (by decide)) hi
              have hbl := hb0 hnl
              subst e
              simp only [putsA, putsL, List.set_cons_zero, List.set_cons_succ]
              go_simp
              refine hK.out _ _ ⟨[u38, u39, u40, u41, u42, u43, u44, u45, u46, u47, u48, u49, u50, u51, u52, u53, u54, .slice (some ⟨g, 0, none⟩) n cc, u56, u57, u58, u59, u60, u61, u62, u63, u64, u65, u66], by kernel_rfl, _, _, _, _, _, _, _, _, _, _, _, _, _, _, _, _, _, _, _, _, _, _, _, _, _, _, _, _, _, rfl, ⟨fun _ => hbl, ⟨fun h => upd_of (cm.e13_12 h), fun h => upd_of (cm.e14_13 h), fun h => upd_of (cm.e15_6 h), fun h => upd_of (cm.e15_14 h), fun h => upd_of (cm.e21_15 h), fun h => upd_of (cm.e26_21 h), fun h => upd_of (cm.e27_26 h)⟩⟩, fun h => absurd (show L 29 = true from h) (by simp [hnl]),
                fun _ hj => HF.out.f0 hnl hj,
                fun _ hj => HF.out.f1 hnl hj,
                fun _ hj => HF.out.f2 hnl hj,
                fun _ hj => HF.out.f3 hnl hj,
                fun _ hj => HF.out.f4 hnl hj,
                fun _ hj => HF.out.f5 hnl hj,
                fun _ hj => HF.out.f6 hnl hj,
                fun _ hj => HF.out.f7 hnl hj,
                fun _ hj => HF.out.f8 hnl hj,
                fun _ hj => HF.out.f9 hnl hj,
                fun _ hj => HF.out.f10 hnl hj,
                fun _ hj => HF.out.f11 hnl hj,
                fun _ hj => HF.out.f12 hnl hj,
                fun _ hj => HF.out.f13 hnl hj,
                fun _ hj => HF.out.f14 hnl hj,
                fun _ hj => HF.out.f15 hnl hj,
                fun _ hj => HF.out.f16 hnl hj,
                fun _ _ => rfl,
                fun _ hj => HF.out.f18 hnl hj,
                fun _ hj => HF.out.f19 hnl hj,
                fun _ hj => HF.out.f20 hnl hj,
                fun _ hj => HF.out.f21 hnl hj,
                fun _ hj => HF.out.f22 hnl hj,
                fun _ hj => HF.out.f23 hnl hj,
                fun _ hj => HF.out.f24 hnl hj,
                fun _ hj => HF.out.f25 hnl hj,
                fun _ hj => HF.out.f26 hnl hj,
                fun _ hj => HF.out.f27 hnl hj,
                fun _ hj => HF.out.f28 hnl hj,
                fun hj => absurd (show L 29 = true from hj) (by simp [hnl])⟩
            · show Stp _ _ _ _ _ 18 _
              intro L _ w hi hL ⟨us, hus, u38, u39, u40, u41, u42, u43, u44, u45, u46, u47, u48, u49, u50, u51, u52, u53, u54, u55, u56, u57, u58, u59, u60, u61, u62, u63, u64, u65, u66, e, hF⟩ K hK
              subst hus
              have HF := Lib.hid hF
              clear hF
              obtain ⟨hb0, cm⟩ := HF.out.com
              have hnl : L 29 = false := no_last (fun h => HF.out.cl h 18 (by decide)) hi
              simp [Region.binds] at hL
              have g17 := HF.out.f17 hnl (by simp [hL])
              have hbl := hb0 hnl
              obtain rfl := g17
              subst e
              simp only [putsA, putsL, List.set_cons_zero, List.set_cons_succ]
              go_simp
              refine hK.out _ _ ⟨[u38, u39, u40, u41, u42, u43, u44, u45, u46, u47, u48, u49, u50, u51, u52, u53, u54, .slice (some ⟨g, 0, none⟩) n cc, .pointer (some ⟨g, 0, none⟩), u57, u58, u59, u60, u61, u62, u63, u64, u65, u66], by kernel_rfl, _, _, _, _, _, _, _, _, _, _, _, _, _, _, _, _, _, _, _, _, _, _, _, _, _, _, _, _, _, rfl, ⟨fun _ => hbl, ⟨fun h => upd_of (cm.e13_12 h), fun h => upd_of (cm.e14_13 h), fun h => upd_of (cm.e15_6 h), fun h => upd_of (cm.e15_14 h), fun h => upd_of (cm.e21_15 h), fun h => upd_of (cm.e26_21 h), fun h => upd_of (cm.e27_26 h)⟩⟩, fun h => absurd (show L 29 = true from h) (by simp [hnl]),
                fun _ hj => HF.out.f0 hnl hj,
                fun _ hj => HF.out.f1 hnl hj,
                fun _ hj => HF.out.f2 hnl hj,
                fun _ hj => HF.out.f3 hnl hj,
                fun _ hj => HF.out.f4 hnl hj,
                fun _ hj => HF.out.f5 hnl hj,
                fun _ hj => HF.out.f6 hnl hj,
                fun _ hj => HF.out.f7 hnl hj,
                fun _ hj => HF.out.f8 hnl hj,
                fun _ hj => HF.out.f9 hnl hj,
                fun _ hj => HF.out.f10 hnl hj,
                fun _ hj => HF.out.f11 hnl hj,
                fun _ hj => HF.out.f12 hnl hj,
                fun _ hj => HF.out.f13 hnl hj,
                fun _ hj => HF.out.f14 hnl hj,
                fun _ hj => HF.out.f15 hnl hj,
                fun _ hj => HF.out.f16 hnl hj,
                fun _ hj => HF.out.f17 hnl hj,
                fun _ _ => rfl,
                fun _ hj => HF.out.f19 hnl hj,
                fun _ hj => HF.out.f20 hnl hj,
                fun _ hj => HF.out.f21 hnl hj,
                fun _ hj => HF.out.f22 hnl hj,
                fun _ hj => HF.out.f23 hnl hj,
                fun _ hj => HF.out.f24 hnl hj,
                fun _ hj => HF.out.f25 hnl hj,
                fun _ hj => HF.out.f26 hnl hj,
                fun _ hj => HF.out.f27 hnl hj,
                fun _ hj => HF.out.f28 hnl hj,
                fun hj => absurd (show L 29 = true from hj) (by simp [hnl])⟩
            · show Stp _ _ _ _ _ 19 _
              intro L _ w hi hL ⟨us, hus, u38, u39, u40, u41, u42, u43, u44, u45, u46, u47, u48, u49, u50, u51, u52, u53, u54, u55, u56, u57, u58, u59, u60, u61, u62, u63, u64, u65, u66, e, hF⟩ K hK
              subst hus
              have HF := Lib.hid hF
              clear hF
              obtain ⟨hb0, cm⟩ := HF.out.com
              have hnl : L 29 = false := no_last (fun h => HF.out.cl h 19 (by decide)) hi
              simp [Region.binds] at hL
              have g18 := HF.out.f18 hnl (by simp [hL])
              have hbl := hb0 hnl
              obtain rfl := g18
              subst e
              simp only [putsA, putsL, List.set_cons_zero, List.set_cons_succ]
              go_simp
              refine hK.out _ _ ⟨[u38, u39, u40, u41, u42, u43, u44, u45, u46, u47, u48, u49, u50, u51, u52, u53, u54, u55, .pointer (some ⟨g, 0, none⟩), .pointer (some ⟨g, 6, none⟩), u58, u59, u60, u61, u62, u63, u64, u65, u66], by kernel_rfl, _, _, _, _, _, _, _, _, _, _, _, _, _, _, _, _, _, _, _, _, _, _, _, _, _, _, _, _, _, rfl, ⟨fun _ => hbl, ⟨fun h => upd_of (cm.e13_12 h), fun h => upd_of (cm.e14_13 h), fun h => upd_of (cm.e15_6 h), fun h => upd_of (cm.e15_14 h), fun h => upd_of (cm.e21_15 h), fun h => upd_of (cm.e26_21 h), fun h => upd_of (cm.e27_26 h)⟩⟩, fun h => absurd (show L 29 = true from h) (by simp [hnl]),
                fun _ hj => HF.out.f0 hnl hj,
                fun _ hj => HF.out.f1 hnl hj,
                fun _ hj => HF.out.f2 hnl hj,
                fun _ hj => HF.out.f3 hnl hj,
                fun _ hj => HF.out.f4 hnl hj,
                fun _ hj => HF.out.f5 hnl hj,
                fun _ hj => HF.out.f6 hnl hj,
                fun _ hj => HF.out.f7 hnl hj,
                fun _ hj => HF.out.f8 hnl hj,
                fun _ hj => HF.out.f9 hnl hj,
                fun _ hj => HF.out.f10 hnl hj,
                fun _ hj => HF.out.f11 hnl hj,
                fun _ hj => HF.out.f12 hnl hj,
                fun _ hj => HF.out.f13 hnl hj,
                fun _ hj => HF.out.f14 hnl hj,
                fun _ hj => HF.out.f15 hnl hj,
                fun _ hj => HF.out.f16 hnl hj,
                fun _ hj => HF.out.f17 hnl hj,
                fun _ hj => HF.out.f18 hnl hj,
                fun _ _ => rfl,
                fun _ hj => HF.out.f20 hnl hj,
                fun _ hj => HF.out.f21 hnl hj,
                fun _ hj => HF.out.f22 hnl hj,
                fun _ hj => HF.out.f23 hnl hj,
                fun _ hj => HF.out.f24 hnl hj,
                fun _ hj => HF.out.f25 hnl hj,
                fun _ hj => HF.out.f26 hnl hj,
                fun _ hj => HF.out.f27 hnl hj,
                fun _ hj => HF.out.f28 hnl hj,
                fun hj => absurd (show L 29 = true from hj) (by simp [hnl])⟩
            · show Stp _ _ _ _ _ 20 _
              intro L _ w hi hL ⟨us, hus, u38, u39, u40, u41, u42, u43, u44, u45, u46, u47, u48, u49, u50, u51, u52, u53, u54, u55, u56, u57, u58, u59, u60, u61, u62, u63, u64, u65, u66, e, hF⟩ K hK
              subst hus
              have HF := Lib.hid hF
              clear hF
              obtain ⟨hb0, cm⟩ := HF.out.com
              have hnl : L 29 = false := no_last (fun h => HF.out.cl h 20 (by decide)) hi
              simp [Region.binds] at hL
              have g19 := HF.out.f19 hnl (by simp [hL])
              have hbl := hb0 hnl
              obtain rfl := g19
              have c0 := (hbl.cell (p := ⟨g, 6, none⟩) hgw).trans y6
              subst e
              simp only [putsA, putsL, List.set_cons_zero, List.set_cons_succ]
              go_simp
              refine hK.out _ _ ⟨[u38, u39, u40, u41, u42, u43, u44, u45, u46, u47, u48, u49, u50, u51, u52, u53, u54, u55, u56, .pointer (some ⟨g, 6, none⟩), .slice kA K0.length kC, u59, u60, u61, u62, u63, u64, u65, u66], by kernel_rfl, _, _, _, _, _, _, _, _, _, _, _, _, _, _, _, _, _, _, _, _, _, _, _, _, _, _, _, _, _, rfl, ⟨fun _ => hbl, ⟨fun h => upd_of (cm.e13_12 h), fun h => upd_of (cm.e14_13 h), fun h => upd_of (cm.e15_6 h), fun h => upd_of (cm.e15_14 h), fun h => upd_of (cm.e21_15 h), fun h => upd_of (cm.e26_21 h), fun h => upd_of (cm.e27_26 h)⟩⟩, fun h => absurd (show L 29 = true from h) (by simp [hnl]),
                fun _ hj => HF.out.f0 hnl hj,
                fun _ hj => HF.out.f1 hnl hj,
                fun _ hj => HF.out.f2 hnl hj,
                fun _ hj => HF.out.f3 hnl hj,
                fun _ hj => HF.out.f4 hnl hj,
                fun _ hj => HF.out.f5 hnl hj,
                fun _ hj => HF.out.f6 hnl hj,
                fun _ hj => HF.out.f7 hnl hj,
                fun _ hj => HF.out.f8 hnl hj,
                fun _ hj => HF.out.f9 hnl hj,
                fun _ hj => HF.out.f10 hnl hj,
                fun _ hj => HF.out.f11 hnl hj,
                fun _ hj => HF.out.f12 hnl hj,
                fun _ hj => HF.out.f13 hnl hj,
                fun _ hj => HF.out.f14 hnl hj,
                fun _ hj => HF.out.f15 hnl hj,
                fun _ hj => HF.out.f16 hnl hj,
                fun _ hj => HF.out.f17 hnl hj,
                fun _ hj => HF.out.f18 hnl hj,
                fun _ hj => HF.out.f19 hnl hj,
                fun _ _ => rfl,
                fun _ hj => HF.out.f21 hnl hj,
                fun _ hj => HF.out.f22 hnl hj,
                fun _ hj => HF.out.f23 hnl hj,
                fun _ hj => HF.out.f24 hnl hj,
                fun _ hj => HF.out.f25 hnl hj,
                fun _ hj => HF.out.f26 hnl hj,
                fun _ hj => HF.out.f27 hnl hj,
                fun _ hj => HF.out.f28 hnl hj,
                fun hj => absurd (show L 29 = true from hj) (by simp [hnl])⟩
            · show Stp _ _ _ _ _ 21 _
              intro L _ w hi hL ⟨us, hus, u38, u39, u40, u41, u42, u43, u44, u45, u46, u47, u48, u49, u50, u51, u52, u53, u54, u55, u56, u57, u58, u59, u60, u61, u62, u63, u64, u65, u66, e, hF⟩ K hK
              subst hus
              have HF := Lib.hid hF
              clear hF
              obtain ⟨hb0, cm⟩ := HF.out.com
              have hnl : L 29 = false := no_last (fun h => HF.out.cl h 21 (by decide)) hi
              simp [Region.binds] at hL
              have g16 := HF.out.f16 hnl (by simp [hL])
              have g20 := HF.out.f20 hnl (by simp [hL])
              have hbl := hb0 hnl
              obtain rfl := g20
              obtain ⟨b, rfl, o1⟩ := g16 hi
              have hsl := HKs.out.below hbl
              refine step_app0 fitEI w rfl (.tmp 54) (.tmp 58) rfl w3.heap.size b (by rewrite [e]; kernel_rfl) o1 (.slice kA K0.length kC) K0 (by rewrite [e]; kernel_rfl) hsl (by omega) hbl.size rfl ?_
              intro A6 c6 w' o6 hb'
              refine hK.out _ _ ⟨[u38, u39, u40, u41, u42, u43, u44, u45, u46, u47, u48, u49, u50, u51, u52, u53, .slice (some ⟨b, 0, none⟩) 0 0, u55, u56, u57, .slice kA K0.length kC, .slice A6 K0.length c6, u60, u61, u62, u63, u64, u65, u66], by rewrite [e]; kernel_rfl, _, _, _, _, _, _, _, _, _, _, _, _, _, _, _, _, _, _, _, _, _, _, _, _, _, _, _, _, _, rfl, ⟨fun _ => Below.step hb' hbl.size hbl, ⟨fun h => upd_of (cm.e13_12 h), fun h => upd_of (cm.e14_13 h), fun h => upd_of (cm.e15_6 h), fun h => upd_of (cm.e15_14 h), fun _ => upd_of (by simp [hL]), fun h => upd_of (cm.e26_21 h), fun h => upd_of (cm.e27_26 h)⟩⟩, fun h => absurd (show L 29 = true from h) (by simp [hnl]),
                fun _ hj => HF.out.f0 hnl hj,
                fun _ hj => Emp1.ev (HF.out.f1 hnl hj) (hb'),
                fun _ hj => HF.out.f2 hnl hj,
                fun _ hj => HF.out.f3 hnl hj,
                fun _ hj => HF.out.f4 hnl hj,
                fun _ hj => HF.out.f5 hnl hj,
                fun _ hj => ev6 (HF.out.f6 hnl hj) (hb'),
                fun _ hj => HF.out.f7 hnl hj,
                fun _ hj => HF.out.f8 hnl hj,
                fun _ hj => HF.out.f9 hnl hj,
                fun _ hj => HF.out.f10 hnl hj,
                fun _ hj => OneB.ev (HF.out.f11 hnl hj) (hb'),
                fun _ hj => HF.out.f12 hnl hj,
                fun _ hj => HF.out.f13 hnl hj,
                fun _ hj => OneL.ev (HF.out.f14 hnl hj) (hb'),
                fun _ hj => GotL.ev (HF.out.f15 hnl hj) (hb'),
                fun _ _ h => absurd h (by simp),
                fun _ hj => HF.out.f17 hnl hj,
                fun _ hj => HF.out.f18 hnl hj,
                fun _ hj => HF.out.f19 hnl hj,
                fun _ hj => HF.out.f20 hnl hj,
                fun _ _ => ⟨fun _ => o6, _, _, rfl⟩,
                fun _ hj => HF.out.f22 hnl hj,
                fun _ hj => HF.out.f23 hnl hj,
                fun _ hj => HF.out.f24 hnl hj,
                fun _ hj => OneI.ev (HF.out.f25 hnl hj) (hb'),
                fun _ hj => GotI.ev (HF.out.f26 hnl hj) (hb'),
                fun _ hj => HF.out.f27 hnl hj,
                fun _ hj => HF.out.f28 hnl hj,
                fun hj => absurd (show L 29 = true from hj) (by simp [hnl])⟩
            · show Stp _ _ _ _ _ 22 _
              intro L _ w hi hL ⟨us, hus, u38, u39, u40, u41, u42, u43, u44, u45, u46, u47, u48, u49, u50, u51, u52, u53, u54, u55, u56, u57, u58, u59, u60, u61, u62, u63, u64, u65, u66, e, hF⟩ K hK
              subst hus
              have HF := Lib.hid hF
              clear hF
              obtain ⟨hb0, cm⟩ := HF.out.com
              have hnl : L 29 = false := no_last (fun h => HF.out.cl h 22 (by decide)) hi
              have hbl := hb0 hnl
              subst e
              simp only [putsA, putsL, List.set_cons_zero, List.set_cons_succ]
              go_simp
              refine hK.out _ _ ⟨[u38, u39, u40, u41, u42, u43, u44, u45, u46, u47, u48, u49, u50, u51, u52, u53, u54, u55, u56, u57, u58, u59, .slice (some ⟨g, 0, none⟩) n cc, u61, u62, u63, u64, u65, u66], by kernel_rfl, _, _, _, _, _, _, _, _, _, _, _, _, _, _, _, _, _, _, _, _, _, _, _, _, _, _, _, _, _, rfl, ⟨fun _ => hbl, ⟨fun h => upd_of (cm.e13_12 h), fun h => upd_of (cm.e14_13 h), fun h => upd_of (cm.e15_6 h), fun h => upd_of (cm.e15_14 h), fun h => upd_of (cm.e21_15 h), fun h => upd_of (cm.e26_21 h), fun h => upd_of (cm.e27_26 h)⟩⟩, fun h => absurd (show L 29 = true from h) (by simp [hnl]),
                fun _ hj => HF.out.f0 hnl hj,
                fun _ hj => HF.out.f1 hnl hj,
                fun _ hj => HF.out.f2 hnl hj,
                fun _ hj => HF.out.f3 hnl hj,
                fun _ hj => HF.out.f4 hnl hj,
                fun _ hj => HF.out.f5 hnl hj,
                fun _ hj => HF.out.f6 hnl hj,
                fun _ hj => HF.out.f7 hnl hj,
                fun _ hj => HF.out.f8 hnl hj,
                fun _ hj => HF.out.f9 hnl hj,
                fun _ hj => HF.out.f10 hnl hj,
                fun _ hj => HF.out.f11 hnl hj,
                fun _ hj => HF.out.f12 hnl hj,
                fun _ hj => HF.out.f13 hnl hj,
                fun _ hj => HF.out.f14 hnl hj,
                fun _ hj => HF.out.f15 hnl hj,
                fun _ hj => HF.out.f16 hnl hj,
                fun _ hj => HF.out.f17 hnl hj,
                fun _ hj => HF.out.f18 hnl hj,
                fun _ hj => HF.out.f19 hnl hj,
                fun _ hj => HF.out.f20 hnl hj,
                fun _ hj => HF.out.f21 hnl hj,
                fun _ _ => rfl,
                fun _ hj => HF.out.f23 hnl hj,
                fun _ hj => HF.out.f24 hnl hj,
                fun _ hj => HF.out.f25 hnl hj,
                fun _ hj => HF.out.f26 hnl hj,
                fun _ hj => HF.out.f27 hnl hj,
                fun _ hj => HF.out.f28 hnl hj,
                fun hj => absurd (show L 29 = true from hj) (by simp [hnl])⟩
            · show Stp _ _ _ _ _ 23 _
              intro L _ w hi hL ⟨us, hus, u38, u39, u40, u41, u42, u43, u44, u45, u46, u47, u48, u49, u50, u51, u52, u53, u54, u55, u56, u57, u58, u59, u60, u61, u62, u63, u64, u65, u66, e, hF⟩ K hK
              subst hus
              have HF := Lib.hid hF
              clear hF
              obtain ⟨hb0, cm⟩ := HF.out.com
              have hnl : L 29 = false := no_last (fun h => HF.out.cl h 23 (by decide)) hi
              simp [Region.binds] at hL
              have g22 := HF.out.f22 hnl (by simp [hL])
              have hbl := hb0 hnl
              obtain rfl := g22
              subst e
              simp only [putsA, putsL, List.set_cons_zero, List.set_cons_succ]
              go_simp
              refine hK.out _ _ ⟨[u38, u39, u40, u41, u42, u43, u44, u45, u46, u47, u48, u49, u50, u51, u52, u53, u54, u55, u56, u57, u58, u59, .slice (some ⟨g, 0, none⟩) n cc, .int .i64 (n : Int), u62, u63, u64, u65, u66], by kernel_rfl, _, _, _, _, _, _, _, _, _, _, _, _, _, _, _, _, _, _, _, _, _, _, _, _, _, _, _, _, _, rfl, ⟨fun _ => hbl, ⟨fun h => upd_of (cm.e13_12 h), fun h => upd_of (cm.e14_13 h), fun h => upd_of (cm.e15_6 h), fun h => upd_of (cm.e15_14 h), fun h => upd_of (cm.e21_15 h), fun h => upd_of (cm.e26_21 h), fun h => upd_of (cm.e27_26 h)⟩⟩, fun h => absurd (show L 29 = true from h) (by simp [hnl]),
                fun _ hj => HF.out.f0 hnl hj,
                fun _ hj => HF.out.f1 hnl hj,
                fun _ hj => HF.out.f2 hnl hj,
                fun _ hj => HF.out.f3 hnl hj,
                fun _ hj => HF.out.f4 hnl hj,
                fun _ hj => HF.out.f5 hnl hj,
                fun _ hj => HF.out.f6 hnl hj,
                fun _ hj => HF.out.f7 hnl hj,
                fun _ hj => HF.out.f8 hnl hj,
                fun _ hj => HF.out.f9 hnl hj,
                fun _ hj => HF.out.f10 hnl hj,
                fun _ hj => HF.out.f11 hnl hj,
                fun _ hj => HF.out.f12 hnl hj,
                fun _ hj => HF.out.f13 hnl hj,
                fun _ hj => HF.out.f14 hnl hj,
                fun _ hj => HF.out.f15 hnl hj,
                fun _ hj => HF.out.f16 hnl hj,
                fun _ hj => HF.out.f17 hnl hj,
                fun _ hj => HF.out.f18 hnl hj,
                fun _ hj => HF.out.f19 hnl hj,
                fun _ hj => HF.out.f20 hnl hj,
                fun _ hj => HF.out.f21 hnl hj,
                fun _ hj => HF.out.f22 hnl hj,
                fun _ _ => rfl,
                fun _ hj => HF.out.f24 hnl hj,
                fun _ hj => HF.out.f25 hnl hj,
                fun _ hj => HF.out.f26 hnl hj,
                fun _ hj => HF.out.f27 hnl hj,
                fun _ hj => HF.out.f28 hnl hj,
                fun hj => absurd (show L 29 = true from hj) (by simp [hnl])⟩
            · show Stp _ _ _ _ _ 24 _
              intro L _ w hi hL ⟨us, hus, u38, u39, u40, u41, u42, u43, u44, u45, u46, u47, u48, u49, u50, u51, u52, u53, u54, u55, u56, u57, u58, u59, u60, u61, u62, u63, u64, u65, u66, e, hF⟩ K hK
              subst hus
              have HF := Lib.hid hF
              clear hF
              obtain ⟨hb0, cm⟩ := HF.out.com
              have hnl : L 29 = false := no_last (fun h => HF.out.cl h 24 (by decide)) hi
              simp [Region.binds] at hL
              have g23 := HF.out.f23 hnl (by simp [hL])
              have hbl := hb0 hnl
              obtain rfl := g23
              subst e
              simp only [putsA, putsL, List.set_cons_zero, List.set_cons_succ]
              go_simp
              refine hK.out _ _ ⟨[u38, u39, u40, u41, u42, u43, u44, u45, u46, u47, u48, u49, u50, u51, u52, u53, u54, u55, u56, u57, u58, u59, u60, .int .i64 (n : Int), .int .i64 ((n : Int) - 1), u63, u64, u65, u66], by kernel_rfl, _, _, _, _, _, _, _, _, _, _, _, _, _, _, _, _, _, _, _, _, _, _, _, _, _, _, _, _, _, rfl, ⟨fun _ => hbl, ⟨fun h => upd_of (cm.e13_12 h), fun h => upd_of (cm.e14_13 h), fun h => upd_of (cm.e15_6 h), fun h => upd_of (cm.e15_14 h), fun h => upd_of (cm.e21_15 h), fun h => upd_of (cm.e26_21 h), fun h => upd_of (cm.e27_26 h)⟩⟩, fun h => absurd (show L 29 = true from h) (by simp [hnl]),
                fun _ hj => HF.out.f0 hnl hj,
                fun _ hj => HF.out.f1 hnl hj,
                fun _ hj => HF.out.f2 hnl hj,
                fun _ hj => HF.out.f3 hnl hj,
                fun _ hj => HF.out.f4 hnl hj,
                fun _ hj => HF.out.f5 hnl hj,
                fun _ hj => HF.out.f6 hnl hj,
                fun _ hj => HF.out.f7 hnl hj,
                fun _ hj => HF.out.f8 hnl hj,
                fun _ hj => HF.out.f9 hnl hj,
                fun _ hj => HF.out.f10 hnl hj,
                fun _ hj => HF.out.f11 hnl hj,
                fun _ hj => HF.out.f12 hnl hj,
                fun _ hj => HF.out.f13 hnl hj,
                fun _ hj => HF.out.f14 hnl hj,
                fun _ hj => HF.out.f15 hnl hj,
                fun _ hj => HF.out.f16 hnl hj,
                fun _ hj => HF.out.f17 hnl hj,
                fun _ hj => HF.out.f18 hnl hj,
                fun _ hj => HF.out.f19 hnl hj,
                fun _ hj => HF.out.f20 hnl hj,
                fun _ hj => HF.out.f21 hnl hj,
                fun _ hj => HF.out.f22 hnl hj,
                fun _ hj => HF.out.f23 hnl hj,
                fun _ _ => ⟨_, rfl⟩,
                fun _ hj => HF.out.f25 hnl hj,
                fun _ hj => HF.out.f26 hnl hj,
                fun _ hj => HF.out.f27 hnl hj,
                fun _ hj => HF.out.f28 hnl hj,
                fun hj => absurd (show L 29 = true from hj) (by simp [hnl])⟩
            · show Stp _ _ _ _ _ 25 _
              intro L _ w hi hL ⟨us, hus, u38, u39, u40, u41, u42, u43, u44, u45, u46, u47, u48, u49, u50, u51, u52, u53, u54, u55, u56, u57, u58, u59, u60, u61, u62, u63, u64, u65, u66, e, hF⟩ K hK
              subst hus
              have HF := Lib.hid hF
              clear hF
              obtain ⟨hb0, cm⟩ := HF.out.com
              have hnl : L 29 = false := no_last (fun h => HF.out.cl h 25 (by decide)) hi
              simp [Region.binds] at hL
              have g24 := HF.out.f24 hnl (by simp [hL])
              have hbl := hb0 hnl
              obtain ⟨z, rfl⟩ := g24
              subst e
              simp only [putsA, putsL, List.set_cons_zero, List.set_cons_succ]
              go_simp
              refine hK.out _ _ ⟨[u38, u39, u40, u41, u42, u43, u44, u45, u46, u47, u48, u49, u50, u51, u52, u53, u54, u55, u56, u57, u58, u59, u60, u61, .int .i64 z, .slice (some ⟨w.heap.size, 0, none⟩) 1 1, u64, u65, u66], by kernel_rfl, _, _, _, _, _, _, _, _, _, _, _, _, _, _, _, _, _, _, _, _, _, _, _, _, _, _, _, _, _, rfl, ⟨fun _ => Below.alloc hbl hbl.size _, ⟨fun h => upd_of (cm.e13_12 h), fun h => upd_of (cm.e14_13 h), fun h => upd_of (cm.e15_6 h), fun h => upd_of (cm.e15_14 h), fun h => upd_of (cm.e21_15 h), fun h => upd_of (cm.e26_21 h), fun h => upd_of (cm.e27_26 h)⟩⟩, fun h => absurd (show L 29 = true from h) (by simp [hnl]),
                fun _ hj => HF.out.f0 hnl hj,
                fun _ hj => Emp1.ev (HF.out.f1 hnl hj) (Below.alloc (Below.refl _ _) (Nat.le_refl _) _),
                fun _ hj => HF.out.f2 hnl hj,
                fun _ hj => HF.out.f3 hnl hj,
                fun _ hj => HF.out.f4 hnl hj,
                fun _ hj => HF.out.f5 hnl hj,
                fun _ hj => ev6 (HF.out.f6 hnl hj) (Below.alloc (Below.refl _ _) (Nat.le_refl _) _),
                fun _ hj => HF.out.f7 hnl hj,
                fun _ hj => HF.out.f8 hnl hj,
                fun _ hj => HF.out.f9 hnl hj,
                fun _ hj => HF.out.f10 hnl hj,
                fun _ hj => OneB.ev (HF.out.f11 hnl hj) (Below.alloc (Below.refl _ _) (Nat.le_refl _) _),
                fun _ hj => HF.out.f12 hnl hj,
                fun _ hj => HF.out.f13 hnl hj,
                fun _ hj => OneL.ev (HF.out.f14 hnl hj) (Below.alloc (Below.refl _ _) (Nat.le_refl _) _),
                fun _ hj => GotL.ev (HF.out.f15 hnl hj) (Below.alloc (Below.refl _ _) (Nat.le_refl _) _),
                fun _ hj => Emp2.ev (HF.out.f16 hnl hj) (Below.alloc (Below.refl _ _) (Nat.le_refl _) _),
                fun _ hj => HF.out.f17 hnl hj,
                fun _ hj => HF.out.f18 hnl hj,
                fun _ hj => HF.out.f19 hnl hj,
                fun _ hj => HF.out.f20 hnl hj,
                fun _ hj => ev21 (HF.out.f21 hnl hj) (Below.alloc (Below.refl _ _) (Nat.le_refl _) _),
                fun _ hj => HF.out.f22 hnl hj,
                fun _ hj => HF.out.f23 hnl hj,
                fun _ hj => HF.out.f24 hnl hj,
                fun _ _ _ => ⟨_, z, rfl, ownG_lit rfl rfl hbl.size⟩,
                fun _ hj => GotI.ev (HF.out.f26 hnl hj) (Below.alloc (Below.refl _ _) (Nat.le_refl _) _),
                fun _ hj => HF.out.f27 hnl hj,
                fun _ hj => HF.out.f28 hnl hj,
                fun hj => absurd (show L 29 = true from hj) (by simp [hnl])⟩
            · show Stp _ _ _ _ _ 26 _
              intro L _ w hi hL ⟨us, hus, u38, u39, u40, u41, u42, u43, u44, u45, u46, u47, u48, u49, u50, u51, u52, u53, u54, u55, u56, u57, u58, u59, u60, u61, u62, u63, u64, u65, u66, e, hF⟩ K hK
              subst hus
              have HF := Lib.hid hF
              clear hF
              obtain ⟨hb0, cm⟩ := HF.out.com
              have hnl : L 29 = false := no_last (fun h => HF.out.cl h 26 (by decide)) hi
              simp [Region.binds] at hL
              have g21 := HF.out.f21 hnl (by simp [hL])
              have g25 := HF.out.f25 hnl (by simp [hL])
              have hbl := hb0 hnl
              obtain ⟨o6, A6, c6, rfl⟩ := g21
              have o6 := o6 hi
              obtain ⟨b, z, rfl, o14⟩ := g25 hi
              refine step_appG1 fitEI w rfl (.tmp 59) (.tmp 63) rfl w3.heap.size (.slice A6 K0.length c6) K0 (by rewrite [e]; kernel_rfl) o6 (.slice (some ⟨b, 0, none⟩) 1 1) [z] (by rewrite [e]; kernel_rfl) (ownG_sl o14) (by simp; omega) hbl.size (N := K0.length + 1) (by simp) ?_
              intro A7 c7 w' ha hb'
              refine hK.out _ _ ⟨[u38, u39, u40, u41, u42, u43, u44, u45, u46, u47, u48, u49, u50, u51, u52, u53, u54, u55, u56, u57, u58, .slice A6 K0.length c6, u60, u61, u62, .slice (some ⟨b, 0, none⟩) 1 1, .slice A7 (K0.length + 1) c7, u65, u66], by rewrite [e]; kernel_rfl, _, _, _, _, _, _, _, _, _, _, _, _, _, _, _, _, _, _, _, _, _, _, _, _, _, _, _, _, _, rfl, ⟨fun _ => Below.trans hbl hb', ⟨fun h => upd_of (cm.e13_12 h), fun h => upd_of (cm.e14_13 h), fun h => upd_of (cm.e15_6 h), fun h => upd_of (cm.e15_14 h), fun h => upd_of (cm.e21_15 h), fun _ => upd_of (by simp [hL]), fun h => upd_of (cm.e27_26 h)⟩⟩, fun h => absurd (show L 29 = true from h) (by simp [hnl]),
                fun _ hj => HF.out.f0 hnl hj,
                fun _ _ h => absurd (show L 6 = false from h) (by simp [cm.e15_6 (cm.e21_15 (show L 21 = true by simp [hL]))]),
                fun _ hj => HF.out.f2 hnl hj,
                fun _ hj => HF.out.f3 hnl hj,
                fun _ hj => HF.out.f4 hnl hj,
                fun _ hj => HF.out.f5 hnl hj,
                fun _ hj => ⟨fun h => absurd (show L 15 = false from h) (by simp [cm.e21_15 (show L 21 = true by simp [hL])]), (HF.out.f6 hnl hj).2⟩,
                fun _ hj => HF.out.f7 hnl hj,
                fun _ hj => HF.out.f8 hnl hj,
                fun _ hj => HF.out.f9 hnl hj,
                fun _ hj => HF.out.f10 hnl hj,
                fun _ _ h => absurd (show L 12 = false from h) (by simp [cm.e13_12 (cm.e14_13 (cm.e15_14 (cm.e21_15 (show L 21 = true by simp [hL]))))]),
                fun _ hj => HF.out.f12 hnl hj,
                fun _ hj => HF.out.f13 hnl hj,
                fun _ _ h => absurd (show L 15 = false from h) (by simp [cm.e21_15 (show L 21 = true by simp [hL])]),
                fun _ hj => GotL.kept (HF.out.f15 hnl hj) ha.2.1 o6,
                fun _ _ h => absurd (show L 21 = false from h) (by simp [hL]),
                fun _ hj => HF.out.f17 hnl hj,
                fun _ hj => HF.out.f18 hnl hj,
                fun _ hj => HF.out.f19 hnl hj,
                fun _ hj => HF.out.f20 hnl hj,
                fun _ _ => ⟨fun h => absurd h (by simp), _, _, rfl⟩,
                fun _ hj => HF.out.f22 hnl hj,
                fun _ hj => HF.out.f23 hnl hj,
                fun _ hj => HF.out.f24 hnl hj,
                fun _ _ h => absurd h (by simp),
                fun _ _ => ⟨A7, c7, z, rfl, ha.1⟩,
                fun _ hj => absurd (cm.e27_26 hj) (by simp [show L 26 = false from hi]),
                fun _ hj => HF.out.f28 hnl hj,
                fun hj => absurd (show L 29 = true from hj) (by simp [hnl])⟩
            · show Stp _ _ _ _ _ 27 _
              intro L _ w hi hL ⟨us, hus, u38, u39, u40, u41, u42, u43, u44, u45, u46, u47, u48, u49, u50, u51, u52, u53, u54, u55, u56, u57, u58, u59, u60, u61, u62, u63, u64, u65, u66, e, hF⟩ K hK
              subst hus
              have HF := Lib.hid hF
              clear hF
              obtain ⟨hb0, cm⟩ := HF.out.com
              have hnl : L 29 = false := no_last (fun h => HF.out.cl h 27 (by decide)) hi
              simp [Region.binds] at hL
              have g15 := HF.out.f15 hnl (by simp [hL])
              have g26 := HF.out.f26 hnl (by simp [hL])
              have hbl := hb0 hnl
              obtain ⟨A1, c1, s, rfl, -, -⟩ := g15
              obtain ⟨A2, c2, z, rfl, -⟩ := g26
              subst e
              simp only [putsA, putsL, List.set_cons_zero, List.set_cons_succ]
              go_simp
              refine hK.out _ _ ⟨[u38, u39, u40, u41, u42, u43, u44, u45, u46, u47, u48, u49, u50, u51, u52, .slice A1 (N0.length + 1) c1, u54, u55, u56, u57, u58, u59, u60, u61, u62, u63, .slice A2 (K0.length + 1) c2, .agg #[.bool true, .int .i64 0, .int .i64 0, .int .i64 511, .string "".toUTF8, .slice A1 (N0.length + 1) c1, .slice A2 (K0.length + 1) c2], u66], by kernel_rfl, _, _, _, _, _, _, _, _, _, _, _, _, _, _, _, _, _, _, _, _, _, _, _, _, _, _, _, _, _, rfl, ⟨fun _ => hbl, ⟨fun h => upd_of (cm.e13_12 h), fun h => upd_of (cm.e14_13 h), fun h => upd_of (cm.e15_6 h), fun h => upd_of (cm.e15_14 h), fun h => upd_of (cm.e21_15 h), fun h => upd_of (cm.e26_21 h), fun _ => upd_of (by simp [hL])⟩⟩, fun h => absurd (show L 29 = true from h) (by simp [hnl]),
                fun _ hj => HF.out.f0 hnl hj,
                fun _ hj => HF.out.f1 hnl hj,
                fun _ hj => HF.out.f2 hnl hj,
                fun _ hj => HF.out.f3 hnl hj,
                fun _ hj => HF.out.f4 hnl hj,
                fun _ hj => HF.out.f5 hnl hj,
                fun _ hj => HF.out.f6 hnl hj,
                fun _ hj => HF.out.f7 hnl hj,
                fun _ hj => HF.out.f8 hnl hj,
                fun _ hj => HF.out.f9 hnl hj,
                fun _ hj => HF.out.f10 hnl hj,
                fun _ hj => HF.out.f11 hnl hj,
                fun _ hj => HF.out.f12 hnl hj,
                fun _ hj => HF.out.f13 hnl hj,
                fun _ hj => HF.out.f14 hnl hj,
                fun _ hj => HF.out.f15 hnl hj,
                fun _ hj => HF.out.f16 hnl hj,
                fun _ hj => HF.out.f17 hnl hj,
                fun _ hj => HF.out.f18 hnl hj,
                fun _ hj => HF.out.f19 hnl hj,
                fun _ hj => HF.out.f20 hnl hj,
                fun _ hj => HF.out.f21 hnl hj,
                fun _ hj => HF.out.f22 hnl hj,
                fun _ hj => HF.out.f23 hnl hj,
                fun _ hj => HF.out.f24 hnl hj,
                fun _ hj => HF.out.f25 hnl hj,
                fun _ hj => HF.out.f26 hnl hj,
                fun _ _ => rfl,
                fun _ hj => HF.out.f28 hnl hj,
                fun hj => absurd (show L 29 = true from hj) (by simp [hnl])⟩
            · show Stp _ _ _ _ _ 28 _
              intro L _ w hi hL ⟨us, hus, u38, u39, u40, u41, u42, u43, u44, u45, u46, u47, u48, u49, u50, u51, u52, u53, u54, u55, u56, u57, u58, u59, u60, u61, u62, u63, u64, u65, u66, e, hF⟩ K hK
              subst hus
              have HF := Lib.hid hF
              clear hF
              obtain ⟨hb0, cm⟩ := HF.out.com
              have hnl : L 29 = false := no_last (fun h => HF.out.cl h 28 (by decide)) hi
              simp [Region.binds] at hL
              have g0 := HF.out.f0 hnl (by simp [hL])
              have hbl := hb0 hnl
              obtain rfl := g0
              subst e
              simp only [putsA, putsL, List.set_cons_zero, List.set_cons_succ]
              go_simp
              refine hK.out _ _ ⟨[.slice (some ⟨g, 0, none⟩) n cc, u39, u40, u41, u42, u43, u44, u45, u46, u47, u48, u49, u50, u51, u52, u53, u54, u55, u56, u57, u58, u59, u60, u61, u62, u63, u64, u65, .pointer (some ⟨g, 0, none⟩)], by kernel_rfl, _, _, _, _, _, _, _, _, _, _, _, _, _, _, _, _, _, _, _, _, _, _, _, _, _, _, _, _, _, rfl, ⟨fun _ => hbl, ⟨fun h => upd_of (cm.e13_12 h), fun h => upd_of (cm.e14_13 h), fun h => upd_of (cm.e15_6 h), fun h => upd_of (cm.e15_14 h), fun h => upd_of (cm.e21_15 h), fun h => upd_of (cm.e26_21 h), fun h => upd_of (cm.e27_26 h)⟩⟩, fun h => absurd (show L 29 = true from h) (by simp [hnl]),
                fun _ hj => HF.out.f0 hnl hj,
                fun _ hj => HF.out.f1 hnl hj,
                fun _ hj => HF.out.f2 hnl hj,
                fun _ hj => HF.out.f3 hnl hj,
                fun _ hj => HF.out.f4 hnl hj,
                fun _ hj => HF.out.f5 hnl hj,
                fun _ hj => HF.out.f6 hnl hj,
                fun _ hj => HF.out.f7 hnl hj,
                fun _ hj => HF.out.f8 hnl hj,
                fun _ hj => HF.out.f9 hnl hj,
                fun _ hj => HF.out.f10 hnl hj,
                fun _ hj => HF.out.f11 hnl hj,
                fun _ hj => HF.out.f12 hnl hj,
                fun _ hj => HF.out.f13 hnl hj,
                fun _ hj => HF.out.f14 hnl hj,
                fun _ hj => HF.out.f15 hnl hj,
                fun _ hj => HF.out.f16 hnl hj,
                fun _ hj => HF.out.f17 hnl hj,
                fun _ hj => HF.out.f18 hnl hj,
                fun _ hj => HF.out.f19 hnl hj,
                fun _ hj => HF.out.f20 hnl hj,
                fun _ hj => HF.out.f21 hnl hj,
                fun _ hj => HF.out.f22 hnl hj,
                fun _ hj => HF.out.f23 hnl hj,
                fun _ hj => HF.out.f24 hnl hj,
                fun _ hj => HF.out.f25 hnl hj,
                fun _ hj => HF.out.f26 hnl hj,
                fun _ hj => HF.out.f27 hnl hj,
                fun _ _ => rfl,
                fun hj => absurd (show L 29 = true from hj) (by simp [hnl])⟩
            · show Stp _ _ _ _ _ 29 _
              intro L _ w hi hL ⟨us, hus, u38, u39, u40, u41, u42, u43, u44, u45, u46, u47, u48, u49, u50, u51, u52, u53, u54, u55, u56, u57, u58, u59, u60, u61, u62, u63, u64, u65, u66, e, hF⟩ K hK
              subst hus
              have HF := Lib.hid hF
              clear hF
              obtain ⟨hb0, cm⟩ := HF.out.com
              simp [Region.binds] at hL
              have hall : ∀ k, k < 29 → L k = true := by
                intro k hk
                have hk' : k = 0 ∨ k = 1 ∨ k = 2 ∨ k = 3 ∨ k = 4 ∨ k = 5 ∨ k = 6 ∨ k = 7 ∨ k = 8 ∨ k = 9 ∨ k = 10 ∨ k = 11 ∨ k = 12 ∨ k = 13 ∨ k = 14 ∨ k = 15 ∨ k = 16 ∨ k = 17 ∨ k = 18 ∨ k = 19 ∨ k = 20 ∨ k = 21 ∨ k = 22 ∨ k = 23 ∨ k = 24 ∨ k = 25 ∨ k = 26 ∨ k = 27 ∨ k = 28 := by omega
                rcases hk' with h | h | h | h | h | h | h | h | h | h | h | h | h | h | h | h | h | h | h | h | h | h | h | h | h | h | h | h | h
                all_goals (rw [h]; simp only [hL])
              have g15 := HF.out.f15 (by simpa using hi) (by simp [hL])
              have g26 := HF.out.f26 (by simpa using hi) (by simp [hL])
              have g27 := HF.out.f27 (by simpa using hi) (by simp [hL])
              have g28 := HF.out.f28 (by simpa using hi) (by simp [hL])
              have hbl := hb0 (by simpa using hi)
              obtain ⟨A1, c1, s, rfl, hs, o1⟩ := g15
              obtain ⟨A2, c2, z, rfl, o2⟩ := g26
              obtain rfl := g28
              obtain rfl := g27
              obtain ⟨⟨cs9, hwr⟩, hgw', v0, v1, v2, v3, v4, ⟨x5, v5⟩, ⟨x6, v6⟩, vf⟩ := mk_write HT6.out hbl h0T6 o1 o2 hBt HNz.out hs
              have vf0 := vf 0
              have vf1 := vf 1
              have vf2 := vf 2
              have vf3 := vf 3
              have vf4 := vf 4
              have vf5 := vf 5
              have vf6 := vf 6
              have hb29 := below_seven (u0 := .bool true) (u1 := .int .i64 0) (u2 := .int .i64 0) (u3 := .int .i64 511) (u4 := .string ByteArray.empty) (u5 := .slice A1 (N0.length + 1) c1) (u6 := .slice A2 (K0.length + 1) c2) (hbl.mono hBt) hgBt
              have Hwr := Lib.hid hwr
              have Hb29 := Lib.hid hb29
              subst e
              simp only [putsA, putsL, List.set_cons_zero, List.set_cons_succ]
              clear hwr hb29 o1 o2 vf
              go_simp
              refine hK.out _ _ ⟨[u38, u39, u40, u41, u42, u43, u44, u45, u46, u47, u48, u49, u50, u51, u52, .slice A1 (N0.length + 1) c1, u54, u55, u56, u57, u58, u59, u60, u61, u62, u63, .slice A2 (K0.length + 1) c2, .agg #[.bool true, .int .i64 0, .int .i64 0, .int .i64 511, .string "".toUTF8, .slice A1 (N0.length + 1) c1, .slice A2 (K0.length + 1) c2], .pointer (some ⟨g, 0, none⟩)], by kernel_rfl, _, _, _, _, _, _, _, _, _, _, _, _, _, _, _, _, _, _, _, _, _, _, _, _, _, _, _, _, _, rfl, ⟨fun h => absurd h (by simp), ⟨fun h => upd_of (cm.e13_12 h), fun h => upd_of (cm.e14_13 h), fun h => upd_of (cm.e15_6 h), fun h => upd_of (cm.e15_14 h), fun h => upd_of (cm.e21_15 h), fun h => upd_of (cm.e26_21 h), fun h => upd_of (cm.e27_26 h)⟩⟩, fun _ k hk => upd_of (hall k hk),
                fun h => absurd h (by simp),
                fun h => absurd h (by simp),
                fun h => absurd h (by simp),
                fun h => absurd h (by simp),
                fun h => absurd h (by simp),
                fun h => absurd h (by simp),
                fun h => absurd h (by simp),
                fun h => absurd h (by simp),
                fun h => absurd h (by simp),
                fun h => absurd h (by simp),
                fun h => absurd h (by simp),
                fun h => absurd h (by simp),
                fun h => absurd h (by simp),
                fun h => absurd h (by simp),
                fun h => absurd h (by simp),
                fun h => absurd h (by simp),
                fun h => absurd h (by simp),
                fun h => absurd h (by simp),
                fun h => absurd h (by simp),
                fun h => absurd h (by simp),
                fun h => absurd h (by simp),
                fun h => absurd h (by simp),
                fun h => absurd h (by simp),
                fun h => absurd h (by simp),
                fun h => absurd h (by simp),
                fun h => absurd h (by simp),
                fun h => absurd h (by simp),
                fun h => absurd h (by simp),
                fun h => absurd h (by simp),
                fun _ => ⟨_, s, z, Hwr.out, Hb29.out.1, by simpa using hbl.size, fun b i h1 h2 => (Hb29.out.2 b i h2).trans (hbl.cell (p := ⟨b, i, none⟩) h1)⟩⟩
          · intro L us wx hL ⟨u38, u39, u40, u41, u42, u43, u44, u45, u46, u47, u48, u49, u50, u51, u52, u53, u54, u55, u56, u57, u58, u59, u60, u61, u62, u63, u64, u65, u66, hus, hF⟩
            subst hus
            obtain ⟨cs8, s8, z8, hC8, hb8, hz8, hc8⟩ := hF.f29 (hL 29 (by decide))
            clear hF hL
            simp only [putsA, putsL, List.set_cons_zero, List.set_cons_succ]

            have hSM : SM W0 R bx a0 b0 c0 d0 wx (q3 + 1 + 1) (.slice (some ⟨g, 0, none⟩) n cc) cs8 (T6.set 0 ⟨true, 0, 0, 511, ByteArray.empty, N0 ++ [s8], K0 ++ [z8]⟩) :=
              ⟨Below.trans HR9.out (Below.mono hb8 (by rw [size_setCell, HBt0.out]; exact Nat.le_refl _)), by rw [← HBt0.out]; exact hC8, HB9.out.same hz8 (fun i => hc8 bx i HB9.out.lt (fun e => hap9 e.symm)), fun e => hap9 (by injection e)⟩
            have HSM := Lib.hid hSM
            clear hSM hC8 hb8 hz8 hc8
            go_wp2
            go_roundw
            case rel =>
              have hks := kidsLen_set (⟨true, 0, 0, 511, ByteArray.empty, N0 ++ [s8], K0 ++ [z8]⟩ : Nd) h0T6
              have h1 := Hk6.out
              have h2 := Hb0.out
              have h3 := Hn.out
              have h4 := Hl6.out
              have hy : kth (T6.set 0 ⟨true, 0, 0, 511, ByteArray.empty, N0 ++ [s8], K0 ++ [z8]⟩) 0 = ⟨true, 0, 0, 511, ByteArray.empty, N0 ++ [s8], K0 ++ [z8]⟩ := by
                unfold kth
                rw [List.getD_eq_getElem?_getD, List.getElem?_set_self h0T6]; rfl
              simp only [List.length_append, List.length_singleton] at hks
              refine ⟨some ⟨g, 0, none⟩, cc, cs8, _, by rw [List.length_set, Hl6.out], HSM.out, by rw [List.length_set]; omega, by rw [List.length_set]; omega, ?_, ?_⟩
              · rw [hy, List.length_set]
                show (N0 ++ [s8]).length ≤ _
                rw [List.length_append, List.length_singleton]; omega
              · rw [hy, List.length_set]
                show (K0 ++ [z8]).length ≤ _
                rw [List.length_append, List.length_singleton]; omega
            case measure =>
              have h3 := Hn.out
              simp [lenS]; omega

end Go.Proofs.YtkennmpbmbacpaaGreatDoor
