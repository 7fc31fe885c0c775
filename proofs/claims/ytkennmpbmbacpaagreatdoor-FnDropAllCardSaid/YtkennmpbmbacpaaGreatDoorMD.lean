/- Texts in one: Nodes of trees: how they lie in memory. The reference's 'l6Node'. How often each node is named: the plain side; rows of numbers. The reference's 'LinksOf'. Trees: the plain side of TreeValid. The reference's 'TreeValid'. The reference's 'l6Kid'. The reference's 'CredValid'. The reference's 'MayDo' and 'l7May'. -/
import Derived.Test.YtkennmpbmbacpaaGreatDoorMA
import Derived.Test.YtkennmpbmbacpaaGreatDoorMB
import Derived.Deep.QuietTactic
import Derived.OwnWalk
import Derived.StillTailTactics
set_option linter.unusedSimpArgs false
set_option linter.unusedVariables false
set_option linter.unusedSectionVars false
namespace Go.Proofs.YtkennmpbmbacpaaGreatDoor
open Go.RowKit

/-- A node. -/
structure Nd where
  fo : Bool
  ow : Int
  gr : Int
  mo : Int
  tx : ByteArray
  ns : List (List UInt8)
  ks : List Int
instance : Inhabited Nd := ⟨⟨false, 0, 0, 0, ByteArray.empty, [], []⟩⟩
/-- Its cells: the two slices by their headers. -/
structure Cn where
  fo : Bool
  ow : Int
  gr : Int
  mo : Int
  tx : ByteArray
  nA : Option Addr
  nL : Nat
  nC : Nat
  kA : Option Addr
  kL : Nat
  kC : Nat
def Cn.cells (c : Cn) : List Value := [.bool c.fo, .int .i64 c.ow, .int .i64 c.gr, .int .i64 c.mo, .string c.tx, .slice c.nA c.nL c.nC, .slice c.kA c.kL c.kC]
def EC : Lay Cn := ⟨7, by decide, Cn.cells, fun _ => rfl, fun _ u hu => by
  simp [Cn.cells] at hu
  rcases hu with h | h | h | h | h | h | h <;> rw [h] <;> rfl⟩
/-- Texts by their bytes; numbers. -/
def EL : Lay (List UInt8) := ⟨1, by decide, fun s => [.string (mk s)], fun _ => rfl, fun _ u hu => by simp at hu; rw [hu]; rfl⟩
def EI : Lay Int := ⟨1, by decide, fun z => [.int .i64 z], fun _ => rfl, fun _ u hu => by simp at hu; rw [hu]; rfl⟩
/-- The cells c read as the node x. -/
structure NdR (w : World) (c : Cn) (x : Nd) : Prop where
  fo : c.fo = x.fo
  ow : c.ow = x.ow
  gr : c.gr = x.gr
  mo : c.mo = x.mo
  tx : c.tx = x.tx
  ns : SlG EL w (.slice c.nA c.nL c.nC) x.ns
  ks : SlG EI w (.slice c.kA c.kL c.kC) x.ks
  sz : x.tx.size ≤ maxLen
  nz : ∀ s ∈ x.ns, s.length ≤ 1048576
/-- The slice v reads as the tree t. -/
def TreeR (w : World) (v : Value) (t : List Nd) : Prop := ∃ cs : List Cn, cs.length = t.length ∧ SlG EC w v cs ∧ ∀ (i : Nat) c x, cs[i]? = some c → t[i]? = some x → NdR w c x
section
variable {w w' : World} {c : Cn} {x : Nd} {v : Value} {t : List Nd}
theorem NdR.below (h : NdR w c x) (hb : Below w.heap.size w w') : NdR w' c x := ⟨h.fo, h.ow, h.gr, h.mo, h.tx, h.ns.below hb, h.ks.below hb, h.sz, h.nz⟩
theorem TreeR.below (h : TreeR w v t) (hb : Below w.heap.size w w') : TreeR w' v t := by
  obtain ⟨cs, h1, h2, h3⟩ := h
  exact ⟨cs, h1, h2.below hb, fun i c x hc hx => (h3 i c x hc hx).below hb⟩
theorem TreeR.shape (h : TreeR w v t) : ∃ A cap, v = .slice A t.length cap := by
  obtain ⟨cs, h1, h2, _⟩ := h
  obtain ⟨A, cap, e⟩ := h2.shape
  exact ⟨A, cap, by rw [e, h1]⟩
theorem TreeR.caps {A : Option Addr} {n cap : Nat} (h : TreeR w (.slice A n cap) t) : t.length ≤ cap ∧ cap ≤ 9223372036854775807 := by
  obtain ⟨cs, h1, h2, _⟩ := h
  have := h2.caps
  rw [h1] at this; exact this
/-- The slices of a node, and its texts' sizes. -/
structure NdS (w : World) (nA : Option Addr) (nC : Nat) (kA : Option Addr) (kC : Nat) (x : Nd) : Prop where
  ns : SlG EL w (.slice nA x.ns.length nC) x.ns
  ks : SlG EI w (.slice kA x.ks.length kC) x.ks
  sz : x.tx.size ≤ maxLen
  nz : ∀ s ∈ x.ns, s.length ≤ 1048576
theorem NdS.below {nA kA : Option Addr} {nC kC : Nat} (h : NdS w nA nC kA kC x) (hb : Below w.heap.size w w') : NdS w' nA nC kA kC x := ⟨h.ns.below hb, h.ks.below hb, h.sz, h.nz⟩
/-- Node k of a tree: its cells, and what they read as. -/
theorem TreeR.at_ {A : Option Addr} {n cap k : Nat} (h : TreeR w (.slice A n cap) t) (hk : t[k]? = some x) : ∃ b off nA nC kA kC, A = some ⟨b, off, none⟩ ∧ b < w.heap.size ∧ NdS w nA nC kA kC x ∧
    w.cell? ⟨b, off + k * 7, none⟩ = some (.bool x.fo) ∧ w.cell? ⟨b, off + k * 7 + 1, none⟩ = some (.int .i64 x.ow) ∧ w.cell? ⟨b, off + k * 7 + 2, none⟩ = some (.int .i64 x.gr) ∧ w.cell? ⟨b, off + k * 7 + 3, none⟩ = some (.int .i64 x.mo) ∧
    w.cell? ⟨b, off + k * 7 + 4, none⟩ = some (.string x.tx) ∧ w.cell? ⟨b, off + k * 7 + 5, none⟩ = some (.slice nA x.ns.length nC) ∧ w.cell? ⟨b, off + k * 7 + 6, none⟩ = some (.slice kA x.ks.length kC) := by
  obtain ⟨cs, h1, h2, h3⟩ := h
  have hlt : k < cs.length := by rw [h1]; exact (List.getElem?_eq_some_iff.1 hk).1
  have hc : cs[k]? = some cs[k] := List.getElem?_eq_getElem hlt
  obtain ⟨b, off, e, hb, hat⟩ := h2.at_ hc
  obtain ⟨f1, f2, f3, f4, f5, hns, hks, hsz, hnz⟩ := h3 k _ _ hc hk
  obtain ⟨_, _, e1⟩ := hns.shape
  obtain ⟨_, _, e2⟩ := hks.shape
  injection e1 with _ e1 _
  injection e2 with _ e2 _
  refine ⟨b, off, cs[k].nA, cs[k].nC, cs[k].kA, cs[k].kC, e, hb, ⟨by rw [← e1]; exact hns, by rw [← e2]; exact hks, hsz, hnz⟩, ?_, ?_, ?_, ?_, ?_, ?_, ?_⟩
  · rw [← f1]; exact hat 0 _ rfl
  · rw [← f2]; exact hat 1 _ rfl
  · rw [← f3]; exact hat 2 _ rfl
  · rw [← f4]; exact hat 3 _ rfl
  · rw [← f5]; exact hat 4 _ rfl
  · rw [← e1]; exact hat 5 _ rfl
  · rw [← e2]; exact hat 6 _ rfl
end
theorem quiet_same2 {P : Program} {f : FuncId} {args : Array Value} {w : World} {n m : Nat} {v : Value}
    (h : Calls P f args (w.drewN (n + m)) fun e w' => e = .returned v ∧ w.drewN (n + m) = w') : Calls P f args (w.drewN (n + m)) fun e w'' => e = .returned v ∧ ∃ k, w'' = w.drewN (n + k) :=
  h.mono fun _ _ ⟨he, hm⟩ => ⟨he, m, hm.symm⟩
/-- A text comes ahead of another one. -/
def ltL (a b : List UInt8) : Bool := Op.bytesLess a b
theorem ltL_flip : ∀ a b : List UInt8, (ltL b a || b == a) = !ltL a b
  | [], [] => rfl
  | [], _ :: _ => rfl
  | _ :: _, [] => rfl
  | x :: a, y :: b => by
    have ih := ltL_flip a b
    unfold ltL at ih ⊢
    have h3 : x < y ∨ x = y ∨ y < x := by
      rcases Nat.lt_trichotomy x.toNat y.toNat with h | h | h
      · exact .inl (UInt8.lt_iff_toNat_lt.2 h)
      · exact .inr (.inl (UInt8.toNat_inj.1 h))
      · exact .inr (.inr (UInt8.lt_iff_toNat_lt.2 h))
    rcases h3 with h | h | h
    · have h' : ¬ y < x := fun e => by rw [UInt8.lt_iff_toNat_lt] at e h; omega
      have h2 : ¬ y = x := fun e => by subst e; exact h' h
      simp [Op.bytesLess, h, h', h2]
    · subst h
      have h' : ¬ x < x := fun e => by rw [UInt8.lt_iff_toNat_lt] at e; omega
      simpa [Op.bytesLess, h'] using ih
    · have h' : ¬ x < y := fun e => by rw [UInt8.lt_iff_toNat_lt] at e h; omega
      have h2 : ¬ x = y := fun e => by subst e; exact h' h
      simp [Op.bytesLess, h, h', h2]
/-- What the reference asks of a node alone, where there are 'many'. -/
def headB (x : Nd) : Bool := inB x.ow 0 99 && (inB x.gr 0 7 && (inB x.mo 0 1023 && (decide (x.ns.length = x.ks.length) && ((x.fo || decide (x.ns.length = 0)) && ((!x.fo || decide (x.tx.size = 0)) && decide (x.tx.size ≤ 40))))))
def nthN (x : Nd) (k : Nat) : List UInt8 := x.ns.getD k []
def nthK (x : Nd) (k : Nat) : Int := x.ks.getD k 0
def kidOk (many : Int) (x : Nd) (k : Nat) : Bool := nameB (nthN x k) && (inB (nthK x k) 1 (many - 1) && (decide (k = 0) || ltL (nthN x (k - 1)) (nthN x k)))
def nodeB (many : Int) (x : Nd) : Bool := headB x && (List.range x.ns.length).all (kidOk many x)
end Go.Proofs.YtkennmpbmbacpaaGreatDoor

namespace Go.Proofs.YtkennmpbmbacpaaGreatDoor
open Go.RowKit

theorem all_bad {n k : Nat} {p : Nat → Bool} (hk : k < n) (h : p k = false) : (List.range n).all p = false := by
  rw [Bool.eq_false_iff]; intro e
  rw [List.all_eq_true] at e
  rw [e k (List.mem_range.2 hk)] at h; cases h
theorem all_good {n : Nat} {p : Nat → Bool} (h : ∀ k, k < n → p k = true) : (List.range n).all p = true := List.all_eq_true.2 fun k hk => h k (List.mem_range.1 hk)
theorem or7 (a b c d e f g : Bool) : a = false ∨ (a = true ∧ b = false) ∨ (a = true ∧ b = true ∧ c = false) ∨ (a = true ∧ b = true ∧ c = true ∧ d = false) ∨ (a = true ∧ b = true ∧ c = true ∧ d = true ∧ e = false) ∨ (a = true ∧ b = true ∧ c = true ∧ d = true ∧ e = true ∧ f = false) ∨ (a = true ∧ b = true ∧ c = true ∧ d = true ∧ e = true ∧ f = true ∧ g = false) ∨ (a = true ∧ b = true ∧ c = true ∧ d = true ∧ e = true ∧ f = true ∧ g = true) := by
  cases a <;> cases b <;> cases c <;> cases d <;> cases e <;> cases f <;> cases g <;> simp
theorem tx_empty {s : ByteArray} (h : s.size = 0) : s.toList.isEmpty = true ∧ s.toList = [] := by
  have : s.toList = [] := by rw [Lib.toList_data]; exact List.length_eq_zero_iff.1 ((Array.length_toList).trans h)
  rw [this]; exact ⟨rfl, rfl⟩
theorem tx_some {s : ByteArray} (h : ¬ s.size = 0) : s.toList.isEmpty = false ∧ ¬ s.toList = [] := by
  have : ¬ s.toList = [] := fun e => h (by rw [Lib.toList_data] at e; exact (Array.length_toList).symm.trans (congrArg List.length e))
  exact ⟨by rw [Bool.eq_false_iff]; intro e; exact this (List.isEmpty_iff.1 e), this⟩
set_option maxRecDepth 100000 in
set_option maxHeartbeats 4000000 in
theorem nodeS_of (nA : Option Addr) (nC : Nat) (kA : Option Addr) (kC : Nat) (x : Nd) (many : Int) (w : World) (h : NdS w nA nC kA kC x) (hm : 0 ≤ many) (hm2 : many ≤ 1000000) :
    Calls Tryz.prog 112 #[.agg #[.bool x.fo, .int .i64 x.ow, .int .i64 x.gr, .int .i64 x.mo, .string x.tx, .slice nA x.ns.length nC, .slice kA x.ks.length kC], .int .i64 many] w fun e w' => e = .returned (.bool (nodeB many x)) ∧ Below w.heap.size w w' := by
  have Hns := Lib.hid h.ns
  have Hks := Lib.hid h.ks
  have Hnz := Lib.hid h.nz
  have hc1 := h.ns.caps
  have hc2 := h.ks.caps
  have hsz := h.sz
  unfold maxLen at hsz
  clear h
  have hd : ∀ b, headB x = b → nodeB many x = (b && (List.range x.ns.length).all (kidOk many x)) := fun b hb => by unfold nodeB; rw [hb]
  have Hd := Lib.hid hd
  clear hd
  rcases or7 (inB x.ow 0 99) (inB x.gr 0 7) (inB x.mo 0 1023) (decide (x.ns.length = x.ks.length)) (x.fo || decide (x.ns.length = 0)) (!x.fo || decide (x.tx.size = 0)) (decide (x.tx.size ≤ 40)) with g1 | ⟨g1, g2⟩ | ⟨g1, g2, g3⟩ | ⟨g1, g2, g3, g4⟩ | ⟨g1, g2, g3, g4, g5⟩ | ⟨g1, g2, g3, g4, g5, g6⟩ | ⟨g1, g2, g3, g4, g5, g6, g7⟩ | ⟨g1, g2, g3, g4, g5, g6, g7⟩
  · have hh := Hd.out false (by unfold headB; rw [g1]; rfl)
    have Hh := Lib.hid hh
    clear hh
    go_enter Tryz.func112, Tryz.ntmps112
    go_wp2_with (go_at_call 70; refine (l1In_any _ _ _ _).mono ?_; rintro e w' ⟨rfl, rfl⟩)
    go_ret
    exact ⟨by rw [Hh.out]; rfl, (by (repeat (first | exact Below.refl _ _ | exact Hbl.out | refine Below.ext ?_ (by first | omega | (simp; omega) | simp) | refine Below.setCell ?_ (by first | omega | (simp; omega) | simp) _ | refine Below.alloc ?_ (by first | omega | (simp; omega) | simp) _ | refine Below.drew ?_ | refine below_drewN ?_ _ | refine Below.step (by assumption) (by first | omega | (simp; omega) | simp) ?_)))⟩
  · have hh := Hd.out false (by unfold headB; rw [g1, g2]; rfl)
    have Hh := Lib.hid hh
    clear hh
    go_enter Tryz.func112, Tryz.ntmps112
    go_wp2_with (go_at_call 70; refine (l1In_any _ _ _ _).mono ?_; rintro e w' ⟨rfl, rfl⟩)
    go_ret
    exact ⟨by rw [Hh.out]; rfl, (by (repeat (first | exact Below.refl _ _ | exact Hbl.out | refine Below.ext ?_ (by first | omega | (simp; omega) | simp) | refine Below.setCell ?_ (by first | omega | (simp; omega) | simp) _ | refine Below.alloc ?_ (by first | omega | (simp; omega) | simp) _ | refine Below.drew ?_ | refine below_drewN ?_ _ | refine Below.step (by assumption) (by first | omega | (simp; omega) | simp) ?_)))⟩
  · have hh := Hd.out false (by unfold headB; rw [g1, g2, g3]; rfl)
    have Hh := Lib.hid hh
    clear hh
    go_enter Tryz.func112, Tryz.ntmps112
    go_wp2_with (go_at_call 70; refine (l1In_any _ _ _ _).mono ?_; rintro e w' ⟨rfl, rfl⟩)
    go_ret
    exact ⟨by rw [Hh.out]; rfl, (by (repeat (first | exact Below.refl _ _ | exact Hbl.out | refine Below.ext ?_ (by first | omega | (simp; omega) | simp) | refine Below.setCell ?_ (by first | omega | (simp; omega) | simp) _ | refine Below.alloc ?_ (by first | omega | (simp; omega) | simp) _ | refine Below.drew ?_ | refine below_drewN ?_ _ | refine Below.step (by assumption) (by first | omega | (simp; omega) | simp) ?_)))⟩
  · have g4' : ¬ (x.ns.length : Int) = (x.ks.length : Int) := by simp at g4; omega
    have hh := Hd.out false (by unfold headB; rw [g1, g2, g3, g4]; rfl)
    have Hh := Lib.hid hh
    clear hh g4
    go_enter Tryz.func112, Tryz.ntmps112
    go_wp2_with (go_at_call 70; refine (l1In_any _ _ _ _).mono ?_; rintro e w' ⟨rfl, rfl⟩)
    go_ret
    exact ⟨by rw [Hh.out]; rfl, (by (repeat (first | exact Below.refl _ _ | exact Hbl.out | refine Below.ext ?_ (by first | omega | (simp; omega) | simp) | refine Below.setCell ?_ (by first | omega | (simp; omega) | simp) _ | refine Below.alloc ?_ (by first | omega | (simp; omega) | simp) _ | refine Below.drew ?_ | refine below_drewN ?_ _ | refine Below.step (by assumption) (by first | omega | (simp; omega) | simp) ?_)))⟩
  · have g4' : (x.ns.length : Int) = (x.ks.length : Int) := by simp at g4; omega
    obtain ⟨f1, f2⟩ : x.fo = false ∧ ¬ x.ns.length = 0 := by simpa using g5
    have f3 : 0 < x.ks.length := by omega
    have f4 : 0 < x.ns.length := by omega
    have hh := Hd.out false (by unfold headB; rw [g1, g2, g3, g4, g5]; rfl)
    have Hh := Lib.hid hh
    clear hh g4 g5
    go_enter Tryz.func112, Tryz.ntmps112
    go_wp2_with (go_at_call 70; refine (l1In_any _ _ _ _).mono ?_; rintro e w' ⟨rfl, rfl⟩)
    go_ret
    exact ⟨by rw [Hh.out]; rfl, (by (repeat (first | exact Below.refl _ _ | exact Hbl.out | refine Below.ext ?_ (by first | omega | (simp; omega) | simp) | refine Below.setCell ?_ (by first | omega | (simp; omega) | simp) _ | refine Below.alloc ?_ (by first | omega | (simp; omega) | simp) _ | refine Below.drew ?_ | refine below_drewN ?_ _ | refine Below.step (by assumption) (by first | omega | (simp; omega) | simp) ?_)))⟩
  · have g4' : (x.ns.length : Int) = (x.ks.length : Int) := by simp at g4; omega
    obtain ⟨f1, f2⟩ : x.fo = true ∧ ¬ x.tx.size = 0 := by simpa using g6
    obtain ⟨f3, f4⟩ := tx_some f2
    have hh := Hd.out false (by unfold headB; rw [g1, g2, g3, g4, g5, g6]; rfl)
    have Hh := Lib.hid hh
    clear hh g4 g5 g6
    go_enter Tryz.func112, Tryz.ntmps112
    go_wp2_with (go_at_call 70; refine (l1In_any _ _ _ _).mono ?_; rintro e w' ⟨rfl, rfl⟩)
    go_ret
    exact ⟨by rw [Hh.out]; rfl, (by (repeat (first | exact Below.refl _ _ | exact Hbl.out | refine Below.ext ?_ (by first | omega | (simp; omega) | simp) | refine Below.setCell ?_ (by first | omega | (simp; omega) | simp) _ | refine Below.alloc ?_ (by first | omega | (simp; omega) | simp) _ | refine Below.drew ?_ | refine below_drewN ?_ _ | refine Below.step (by assumption) (by first | omega | (simp; omega) | simp) ?_)))⟩
  · have g4' : (x.ns.length : Int) = (x.ks.length : Int) := by simp at g4; omega
    have g7' : (40 : Int) < (x.tx.size : Int) := by simp at g7; omega
    have hh := Hd.out false (by unfold headB; rw [g1, g2, g3, g4, g5, g6, g7]; rfl)
    have Hh := Lib.hid hh
    have g4n : x.ns.length = x.ks.length := of_decide_eq_true g4
    clear hh
    have hfo : x.fo = false := by
      cases hfo : x.fo
      · rfl
      · rw [hfo] at g6
        have : x.tx.size = 0 := by simpa using g6
        omega
    rw [hfo] at g5
    have f1 : x.ns.length = 0 := by simpa using g5
    have f2 : x.ks.length = 0 := by omega
    clear g4 g5 g6 g7 g4n
    go_enter Tryz.func112, Tryz.ntmps112
    go_wp2_with (go_at_call 70; refine (l1In_any _ _ _ _).mono ?_; rintro e w' ⟨rfl, rfl⟩)
    go_ret
    exact ⟨by rw [Hh.out]; rfl, (by (repeat (first | exact Below.refl _ _ | exact Hbl.out | refine Below.ext ?_ (by first | omega | (simp; omega) | simp) | refine Below.setCell ?_ (by first | omega | (simp; omega) | simp) _ | refine Below.alloc ?_ (by first | omega | (simp; omega) | simp) _ | refine Below.drew ?_ | refine below_drewN ?_ _ | refine Below.step (by assumption) (by first | omega | (simp; omega) | simp) ?_)))⟩
  · have g4' : (x.ns.length : Int) = (x.ks.length : Int) := by simp at g4; omega
    have g7' : ¬ (40 : Int) < (x.tx.size : Int) := by simp at g7; omega
    have hh := Hd.out true (by unfold headB; rw [g1, g2, g3, g4, g5, g6, g7]; rfl)
    have Hh := Lib.hid hh
    have zm : IntKind.i64.wrap (many - 1) = many - 1 := IntWalk.i64_in _ (by omega)
    cases hfo : x.fo
    · rw [hfo] at g5
      have f1 : x.ns.length = 0 := by simpa using g5
      have f2 : x.ks.length = 0 := by omega
      clear hh g4 g5 g6 g7
      go_enter Tryz.func112, Tryz.ntmps112
      go_wp2_with (go_at_call 70; refine (l1In_any _ _ _ _).mono ?_; rintro e w' ⟨rfl, rfl⟩)
      go_loopw [5] (fun i wr => i = .int .i64 0 ∧ wr = w.alloc (.cells #[.bool false, .int .i64 x.ow, .int .i64 x.gr, .int .i64 x.mo, .string x.tx, .slice nA x.ns.length nC, .slice kA x.ks.length kC] 44)) (fun i _ => 0)
      case atStart => exact ⟨rfl, by rw [f1, f2]⟩
      case round =>
        obtain ⟨rfl, rfl⟩ := hrel
        go_wp2
        go_ret
        exact ⟨by rw [Hh.out, f1]; rfl, (by (repeat (first | exact Below.refl _ _ | exact Hbl.out | refine Below.ext ?_ (by first | omega | (simp; omega) | simp) | refine Below.setCell ?_ (by first | omega | (simp; omega) | simp) _ | refine Below.alloc ?_ (by first | omega | (simp; omega) | simp) _ | refine Below.drew ?_ | refine below_drewN ?_ _ | refine Below.step (by assumption) (by first | omega | (simp; omega) | simp) ?_)))⟩
    · rw [hfo] at g6
      have f2 : x.tx.size = 0 := by simpa using g6
      obtain ⟨f3, f4⟩ := tx_empty f2
      clear hh g4 g5 g6 g7 f2
      go_enter Tryz.func112, Tryz.ntmps112
      go_wp2_with (go_at_call 70; refine (l1In_any _ _ _ _).mono ?_; rintro e w' ⟨rfl, rfl⟩)
      go_loopw [5] (fun i wr => ∃ k n : Nat, k ≤ x.ns.length ∧ i = .int .i64 k ∧ wr = (w.alloc (.cells #[.bool true, .int .i64 x.ow, .int .i64 x.gr, .int .i64 x.mo, .string x.tx, .slice nA x.ns.length nC, .slice kA x.ks.length kC] 44)).drewN n ∧ ∀ j, j < k → kidOk many x j = true) (fun i _ => x.ns.length - (intOf i).toNat)
      case atStart => exact ⟨0, 0, Nat.zero_le _, rfl, rfl, fun j hj => by omega⟩
      case round =>
        obtain ⟨k, n, hk, rfl, rfl, hall⟩ := hrel
        have Hall := Lib.hid hall
        clear hall
        by_cases hlt : k < x.ns.length
        · have hx : x.ns[k]? = some (nthN x k) := by unfold nthN; simp [hlt]
          have hy : x.ks[k]? = some (nthK x k) := by unfold nthK; rw [List.getD_eq_getElem?_getD, List.getElem?_eq_getElem (by omega)]; rfl
          obtain ⟨b1, o1, rfl, hb1, q1⟩ := Hns.out.at_ hx
          obtain ⟨b2, o2, rfl, hb2, q2⟩ := Hks.out.at_ hy
          have c1 : w.cell? ⟨b1, o1 + k, none⟩ = some (.string (mk (nthN x k))) := by have := q1 0 _ rfl; simpa [EL] using this
          have c2 : w.cell? ⟨b2, o2 + k, none⟩ = some (.int .i64 (nthK x k)) := by have := q2 0 _ rfl; simpa [EI] using this
          have hsz1 : (mk (nthN x k)).size ≤ maxLen := by rw [mk_size]; have := Hnz.out _ (List.mem_of_getElem? hx); unfold maxLen; omega
          have hN := fun w => nameValidS_any (mk (nthN x k)) w hsz1
          rw [mk_data] at hN
          have hlk : k < x.ks.length := by omega
          rcases and3 (nameB (nthN x k)) (inB (nthK x k) 1 (many - 1)) (decide (k = 0) || ltL (nthN x (k - 1)) (nthN x k)) with r1 | ⟨r1, r2⟩ | ⟨r1, r2, r3⟩ | ⟨r1, r2, r3⟩
          · have hbad : nodeB many x = false := by
              rw [Hh.out, Bool.true_and]; exact all_bad hlt (by unfold kidOk; rw [r1]; rfl)
            have Hbad := Lib.hid hbad
            rw [r1] at hN
            have HN := Lib.hid hN
            clear hN q1 q2 hx hy hbad
            go_wp2_with fail
            go_quiet ((first | (go_at_call 106; exact quiet_same2 (HN.out _)) | (go_at_call 70; exact quiet_same2 (l1In_any _ _ _ _))))
            go_wp2
            go_ret
            exact ⟨by rw [Hbad.out]; rfl, (by (repeat (first | exact Below.refl _ _ | exact Hbl.out | refine Below.ext ?_ (by first | omega | (simp; omega) | simp) | refine Below.setCell ?_ (by first | omega | (simp; omega) | simp) _ | refine Below.alloc ?_ (by first | omega | (simp; omega) | simp) _ | refine Below.drew ?_ | refine below_drewN ?_ _ | refine Below.step (by assumption) (by first | omega | (simp; omega) | simp) ?_)))⟩
          · have hbad : nodeB many x = false := by
              rw [Hh.out, Bool.true_and]; exact all_bad hlt (by unfold kidOk; rw [r1, r2]; rfl)
            have Hbad := Lib.hid hbad
            rw [r1] at hN
            have HN := Lib.hid hN
            clear hN q1 q2 hx hy hbad
            go_wp2_with fail
            go_quiet ((first | (go_at_call 106; exact quiet_same2 (HN.out _)) | (go_at_call 70; exact quiet_same2 (l1In_any _ _ _ _))))
            go_wp2
            go_ret
            exact ⟨by rw [Hbad.out]; rfl, (by (repeat (first | exact Below.refl _ _ | exact Hbl.out | refine Below.ext ?_ (by first | omega | (simp; omega) | simp) | refine Below.setCell ?_ (by first | omega | (simp; omega) | simp) _ | refine Below.alloc ?_ (by first | omega | (simp; omega) | simp) _ | refine Below.drew ?_ | refine below_drewN ?_ _ | refine Below.step (by assumption) (by first | omega | (simp; omega) | simp) ?_)))⟩
          · have hbad : nodeB many x = false := by
              rw [Hh.out, Bool.true_and]; exact all_bad hlt (by unfold kidOk; rw [r1, r2, r3]; rfl)
            have Hbad := Lib.hid hbad
            rw [r1] at hN
            have HN := Lib.hid hN
            obtain ⟨k0, kl⟩ : ¬ k = 0 ∧ ltL (nthN x (k - 1)) (nthN x k) = false := by simpa using r3
            have hx' : x.ns[k - 1]? = some (nthN x (k - 1)) := by unfold nthN; rw [List.getD_eq_getElem?_getD, List.getElem?_eq_getElem (by omega)]; rfl
            obtain ⟨b3, o3, e3, _, q3⟩ := Hns.out.at_ hx'
            cases e3
            have c3 : w.cell? ⟨b1, o1 + (k - 1), none⟩ = some (.string (mk (nthN x (k - 1)))) := by have := q3 0 _ rfl; simpa [EL] using this
            have zk : IntKind.i64.wrap ((k : Int) - 1) = ((k - 1 : Nat) : Int) := by rw [IntWalk.i64_in _ (by omega)]; omega
            have k0n : 0 < k := by omega
            have k0d : decide (0 < k) = true := decide_eq_true k0n
            have k0' : decide ((0 : Int) < (k : Int)) = true := decide_eq_true (by omega)
            have zk0 : (0 : Int) ≤ ((k - 1 : Nat) : Int) := by omega
            have zk1 : ((k - 1 : Nat) : Int) < (x.ns.length : Int) := by omega
            have hcmp : (Op.bytesLess (mk (nthN x k)).toList (mk (nthN x (k - 1))).toList || (mk (nthN x k)).toList == (mk (nthN x (k - 1))).toList) = true := by
              rw [mk_toList, mk_toList]; exact (ltL_flip _ _).trans (by rw [kl]; rfl)
            clear hN q1 q2 q3 hx hx' hy hbad r3 kl
            go_wp2_with fail
            go_quiet ((first | (go_at_call 106; exact quiet_same2 (HN.out _)) | (go_at_call 70; exact quiet_same2 (l1In_any _ _ _ _))))
            go_wp2
            go_ret
            exact ⟨by rw [Hbad.out]; rfl, (by (repeat (first | exact Below.refl _ _ | exact Hbl.out | refine Below.ext ?_ (by first | omega | (simp; omega) | simp) | refine Below.setCell ?_ (by first | omega | (simp; omega) | simp) _ | refine Below.alloc ?_ (by first | omega | (simp; omega) | simp) _ | refine Below.drew ?_ | refine below_drewN ?_ _ | refine Below.step (by assumption) (by first | omega | (simp; omega) | simp) ?_)))⟩
          · have hgood : kidOk many x k = true := by unfold kidOk; rw [r1, r2, r3]; rfl
            have Hgood := Lib.hid hgood
            rw [r1] at hN
            have HN := Lib.hid hN
            by_cases k0 : k = 0
            · have k0d : decide (0 < k) = false := decide_eq_false (by omega)
              have k0' : decide ((0 : Int) < (k : Int)) = false := decide_eq_false (by omega)
              have Hk0 := Lib.hid k0
              clear hN q1 q2 hx hy hgood r3 k0
              go_wp2_with fail
              go_quiet ((first | (go_at_call 106; exact quiet_same2 (HN.out _)) | (go_at_call 70; exact quiet_same2 (l1In_any _ _ _ _))))
              go_wp2
              go_roundw
              case rel => exact ⟨k + 1, _, hlt, by go_num, rfl, fun j hj => by
                by_cases e : j = k
                · subst e; exact Hgood.out
                · exact Hall.out j (by omega)⟩
              case measure => simp [intOf]; omega
            · have kl : ltL (nthN x (k - 1)) (nthN x k) = true := by simpa [k0] using r3
              have hx' : x.ns[k - 1]? = some (nthN x (k - 1)) := by unfold nthN; rw [List.getD_eq_getElem?_getD, List.getElem?_eq_getElem (by omega)]; rfl
              obtain ⟨b3, o3, e3, _, q3⟩ := Hns.out.at_ hx'
              cases e3
              have c3 : w.cell? ⟨b1, o1 + (k - 1), none⟩ = some (.string (mk (nthN x (k - 1)))) := by have := q3 0 _ rfl; simpa [EL] using this
              have zk : IntKind.i64.wrap ((k : Int) - 1) = ((k - 1 : Nat) : Int) := by rw [IntWalk.i64_in _ (by omega)]; omega
              have k0n : 0 < k := by omega
              have k0d : decide (0 < k) = true := decide_eq_true k0n
              have k0' : decide ((0 : Int) < (k : Int)) = true := decide_eq_true (by omega)
              have zk0 : (0 : Int) ≤ ((k - 1 : Nat) : Int) := by omega
              have zk1 : ((k - 1 : Nat) : Int) < (x.ns.length : Int) := by omega
              have hcmp : (Op.bytesLess (mk (nthN x k)).toList (mk (nthN x (k - 1))).toList || (mk (nthN x k)).toList == (mk (nthN x (k - 1))).toList) = false := by
                rw [mk_toList, mk_toList]; exact (ltL_flip _ _).trans (by rw [kl]; rfl)
              clear hN q1 q2 q3 hx hx' hy hgood r3 kl
              go_wp2_with fail
              go_quiet ((first | (go_at_call 106; exact quiet_same2 (HN.out _)) | (go_at_call 70; exact quiet_same2 (l1In_any _ _ _ _))))
              go_wp2
              go_roundw
              case rel => exact ⟨k + 1, _, hlt, by go_num, rfl, fun j hj => by
                by_cases e : j = k
                · subst e; exact Hgood.out
                · exact Hall.out j (by omega)⟩
              case measure => simp [intOf]; omega
        · go_wp2
          go_ret
          refine ⟨?_, (by (repeat (first | exact Below.refl _ _ | exact Hbl.out | refine Below.ext ?_ (by first | omega | (simp; omega) | simp) | refine Below.setCell ?_ (by first | omega | (simp; omega) | simp) _ | refine Below.alloc ?_ (by first | omega | (simp; omega) | simp) _ | refine Below.drew ?_ | refine below_drewN ?_ _ | refine Below.step (by assumption) (by first | omega | (simp; omega) | simp) ?_)))⟩
          rw [Hh.out, Bool.true_and, all_good (fun j hj => Hall.out j (by omega))]; rfl
end Go.Proofs.YtkennmpbmbacpaaGreatDoor

namespace Go.Proofs.YtkennmpbmbacpaaGreatDoor
open Go.RowKit

def kth (t : List Nd) (k : Nat) : Nd := t.getD k default
theorem kth_at {t : List Nd} {k : Nat} (h : k < t.length) : t[k]? = some (kth t k) := by
  unfold kth
  rw [List.getD_eq_getElem?_getD, List.getElem?_eq_getElem h]; rfl
theorem nthK_at {x : Nd} {j : Nat} (h : j < x.ks.length) : x.ks[j]? = some (nthK x j) := by
  unfold nthK
  rw [List.getD_eq_getElem?_getD, List.getElem?_eq_getElem h]; rfl
/-- All kids, in order. -/
def kidsOf (t : List Nd) : List Int := t.flatMap (·.ks)
/-- How often each number below n is there. -/
def cntL (n : Nat) (P : List Int) : List Int := (List.range n).map fun (i : Nat) => ((P.count (i : Int) : Nat) : Int)
theorem cntL_len (n : Nat) (P : List Int) : (cntL n P).length = n := by simp [cntL]
theorem cntL_nil (n : Nat) : cntL n [] = List.replicate n 0 := by
  apply List.ext_getElem?
  intro i
  simp only [cntL, List.getElem?_map, List.getElem?_replicate, List.getElem?_range', List.count_nil]
  by_cases h : i < n
  · simp [h]
  · simp [h]
theorem cntL_get {n : Nat} {P : List Int} {i : Nat} (h : i < n) : (cntL n P)[i]? = some ((P.count (i : Int) : Nat) : Int) := by
  simp [cntL, h]
theorem cntL_snoc {n : Nat} {P : List Int} {z : Int} (h0 : 0 ≤ z) (h1 : z < n) : (cntL n P).set z.toNat (((P.count z : Nat) : Int) + 1) = cntL n (P ++ [z]) := by
  apply List.ext_getElem?
  intro i
  by_cases hi : i < n
  · rw [cntL_get hi, List.getElem?_set]
    by_cases e : z.toNat = i
    · subst e
      have hz : ((z.toNat : Nat) : Int) = z := by omega
      rw [if_pos rfl, if_pos (by rw [cntL_len]; omega), hz, List.count_append]
      simp
    · rw [if_neg e, cntL_get hi, List.count_append]
      have : ¬ z = (i : Int) := fun h => e (by omega)
      simp [this]
  · rw [List.getElem?_eq_none (by rw [List.length_set, cntL_len]; omega), List.getElem?_eq_none (by rw [cntL_len]; omega)]
def linksOk (t : List Nd) : Bool := decide (t.length ≤ 16) && (kidsOf t).all fun z => inB z 0 ((t.length : Int) - 1)
def linksF (t : List Nd) : List Int := if linksOk t = true then cntL t.length (kidsOf t) else []
/-- The kids ahead of kid j of node k. -/
def pre (t : List Nd) (k j : Nat) : List Int := kidsOf (t.take k) ++ (kth t k).ks.take j
theorem pre_zero (t : List Nd) : pre t 0 0 = [] := by simp [pre, kidsOf]
theorem pre_kid {t : List Nd} {k j : Nat} (h : j < (kth t k).ks.length) : pre t k (j + 1) = pre t k j ++ [nthK (kth t k) j] := by
  unfold pre
  rw [List.take_add_one, nthK_at h, ← List.append_assoc]; rfl
theorem pre_next {t : List Nd} {k : Nat} (h : k < t.length) : pre t k (kth t k).ks.length = pre t (k + 1) 0 := by
  unfold pre kidsOf
  rw [List.take_length, List.take_zero, List.append_nil, List.take_add_one, kth_at h, List.flatMap_append]
  simp
theorem pre_end (t : List Nd) : pre t t.length 0 = kidsOf t := by simp [pre]
theorem pre_count_le {t : List Nd} {k j : Nat} (z : Int) (hk : k ≤ t.length) : (pre t k j).count z ≤ (kidsOf t).length := by
  refine Nat.le_trans List.count_le_length ?_
  rcases Nat.lt_or_ge k t.length with h | h
  · have e : kidsOf t = kidsOf (t.take k) ++ ((kth t k).ks ++ kidsOf (t.drop (k + 1))) := by
      have hd : t = t.take k ++ (kth t k :: t.drop (k + 1)) := by
        have h2 := kth_at h
        rw [List.getElem?_eq_getElem h] at h2
        injection h2 with h2
        rw [← h2, List.getElem_cons_drop, List.take_append_drop]
      conv => lhs; rw [hd]
      simp [kidsOf]
    rw [e]
    simp [pre]
    omega
  · have : k = t.length := by omega
    subst this
    have hx : kth t t.length = default := by unfold kth; simp
    simp [pre, hx]
    have : (default : Nd).ks = [] := rfl
    simp [this]
theorem kid_in {t : List Nd} {k j : Nat} (hk : k < t.length) (hj : j < (kth t k).ks.length) : nthK (kth t k) j ∈ kidsOf t := by
  unfold kidsOf
  exact List.mem_flatMap.2 ⟨kth t k, List.mem_of_getElem? (kth_at hk), List.mem_of_getElem? (nthK_at hj)⟩
theorem links_bad {t : List Nd} {k j : Nat} (hk : k < t.length) (hj : j < (kth t k).ks.length) (h : inB (nthK (kth t k) j) 0 ((t.length : Int) - 1) = false) : linksF t = [] := by
  unfold linksF linksOk
  rw [if_neg]
  intro e
  rw [Bool.and_eq_true, List.all_eq_true] at e
  rw [e.2 _ (kid_in hk hj)] at h
  cases h
theorem links_long {t : List Nd} (h : 16 < t.length) : linksF t = [] := by
  unfold linksF linksOk
  rw [if_neg]
  intro e
  rw [Bool.and_eq_true, decide_eq_true_eq] at e
  omega
theorem links_good {t : List Nd} (h : t.length ≤ 16) (ha : ∀ z ∈ kidsOf t, inB z 0 ((t.length : Int) - 1) = true) : linksF t = cntL t.length (kidsOf t) := by
  unfold linksF linksOk
  rw [if_pos]
  rw [Bool.and_eq_true, decide_eq_true_eq, List.all_eq_true]
  exact ⟨h, ha⟩
theorem flat_ints (l : List Int) : l.flatMap EI.put = l.map (Value.int .i64) := by
  induction l with
  | nil => rfl
  | cons a r ih => rw [List.flatMap_cons, ih]; rfl
theorem made_ints (n : Nat) : (madeCells #[Value.int .i64 0] n).toList = (cntL n []).flatMap EI.put := by
  rw [flat_ints, cntL_nil]
  unfold madeCells
  apply List.ext_getElem?
  intro i
  by_cases h : i < n <;> simp [h, Nat.mod_one]
end Go.Proofs.YtkennmpbmbacpaaGreatDoor

namespace Go.Proofs.YtkennmpbmbacpaaGreatDoor
open Go.RowKit

theorem inB_iffL {n lo hi : Int} : inB n lo hi = true ↔ lo ≤ n ∧ n ≤ hi := by simp [inB]

theorem infoInt : (Tryz.prog.info? 3).map (fun i => (i.zero, i.size, i.bytes)) = some (some (.int .i64 0), 1, 8) := by kernel_rfl
theorem info_partsI {P : Program} {e : TypeId} {z : Value} {n k : Nat} (h : (P.info? e).map (fun i => (i.zero, i.size, i.bytes)) = some (some z, n, k)) : ∃ i, P.info? e = some i ∧ i.zero = some z ∧ i.size = n ∧ i.bytes = k := by
  cases hi : P.info? e with
  | none => rw [hi] at h; cases h
  | some i =>
    rw [hi] at h
    have h' : (i.zero, i.size, i.bytes) = (some z, n, k) := Option.some.inj h
    simp only [Prod.mk.injEq] at h'
    exact ⟨i, rfl, h'.1, h'.2.1, h'.2.2⟩
set_option maxRecDepth 100000 in
set_option maxHeartbeats 4000000 in
theorem linksS_of (v : Value) (t : List Nd) (w : World) (h : TreeR w v t) (ht : t.length ≤ 1000) (hkz : (kidsOf t).length ≤ 1000000) :
    Calls Tryz.prog 93 #[v] w fun e w' => ∃ v', e = .returned v' ∧ OwnG EI 3 w.heap.size w' v' (linksF t) ∧ Below w.heap.size w w' := by
  obtain ⟨i0, hi, hz0, hz1, hz2⟩ := info_partsI infoInt
  have H := Lib.hid h
  obtain ⟨A, cap, rfl⟩ := h.shape
  have hcap := h.caps
  clear h
  go_enter Tryz.func93, Tryz.ntmps93
  go_wp2_with (refine wpList_make_full _ rfl _ _ 35 rfl w.heap.size 3 i0 (.int .i64 0) 1 Tryz.underlying35 hi hz0 hz1 _ _ _ _ t.length rfl rfl rfl rfl (by rw [hz2]; omega) (by unfold maxLen; omega) (Nat.le_refl _) ?_)
  intro w1 hown hg1
  have hbl : Below w.heap.size w w1 := (Below.refl _ _).grown hg1 (Nat.le_refl _) (by intro k hk; cases hk)
  have hO : OwnG EI 3 w.heap.size w1 (.slice (some ⟨w.heap.size, 0, none⟩) t.length t.length) (cntL t.length (pre t 0 0)) := by
    unfold OwnG
    rw [pre_zero, cntL_len, ← made_ints]
    exact hown
  have HO := Lib.hid hO
  have Hbl := Lib.hid hbl
  have hz1' := hbl.size
  clear hown hg1 hO hbl hi hz0 hz1 hz2
  by_cases h16 : 16 < t.length
  · have h16' : (16 : Int) < (t.length : Int) := by omega
    have hr := Lib.hid (links_long h16)
    go_wp2
    go_ret
    exact ⟨_, rfl, by rw [hr.out]; exact ownG_empty _ rfl (by omega), Below.alloc Hbl.out (by omega) _⟩
  · have h16' : ¬ (16 : Int) < (t.length : Int) := by omega
    go_wp2
    go_loopw [4] (fun i wr => ∃ k : Nat, k ≤ t.length ∧ i = .int .i64 k ∧ OwnG EI 3 w.heap.size wr (.slice (some ⟨w.heap.size, 0, none⟩) t.length t.length) (cntL t.length (pre t k 0)) ∧ Below w.heap.size w wr ∧ ∀ z ∈ pre t k 0, inB z 0 ((t.length : Int) - 1) = true) (fun i _ => t.length - (intOf i).toNat)
    case atStart => exact ⟨0, Nat.zero_le _, rfl, HO.out, Hbl.out, fun z hz => by rw [pre_zero] at hz; cases hz⟩
    case round =>
      obtain ⟨k, hk, rfl, hO, hB, hall⟩ := hrel
      have HO2 := Lib.hid hO
      have HB := Lib.hid hB
      have Hall := Lib.hid hall
      clear hO hB hall HO Hbl
      by_cases hlt : k < t.length
      · have zn : IntKind.i64.wrap ((t.length : Int) - 1) = (t.length : Int) - 1 := IntWalk.i64_in _ (by omega)
        go_wp2
        go_loopw [5] (fun i wr => ∃ j : Nat, j ≤ (kth t k).ks.length ∧ i = .int .i64 j ∧ OwnG EI 3 w.heap.size wr (.slice (some ⟨w.heap.size, 0, none⟩) t.length t.length) (cntL t.length (pre t k j)) ∧ Below w.heap.size w wr ∧ ∀ z ∈ pre t k j, inB z 0 ((t.length : Int) - 1) = true) (fun i _ => (kth t k).ks.length - (intOf i).toNat)
        case atStart => exact ⟨0, Nat.zero_le _, rfl, HO2.out, HB.out, Hall.out⟩
        case round =>
          obtain ⟨j, hj, rfl, hO, hB, hall⟩ := hrel
          have hT := H.out.below hB
          obtain ⟨b, off, nA, nC, kA, kC, rfl, hb, hS, _, _, _, _, _, _, q6⟩ := hT.at_ (kth_at hlt)
          have hkc := hS.ks.caps
          have HO3 := Lib.hid hO
          have HB3 := Lib.hid hB
          have Hall3 := Lib.hid hall
          have HS := Lib.hid hS
          have hwz := hB.size
          have zk : IntKind.i64.wrap ((k : Int) + 1) = (k : Int) + 1 := IntWalk.i64_in _ (by omega)
          have hlt' : (k : Int) < (t.length : Int) := by omega
          clear hO hB hall hT hS HO2 HB Hall
          by_cases hjl : j < (kth t k).ks.length
          · have zj : IntKind.i64.wrap ((j : Int) + 1) = (j : Int) + 1 := IntWalk.i64_in _ (by omega)
            obtain ⟨b2, o2, rfl, hb2, q2⟩ := HS.out.ks.at_ (nthK_at hjl)
            have c2 : wr.cell? ⟨b2, o2 + j, none⟩ = some (.int .i64 (nthK (kth t k) j)) := by have := q2 0 _ rfl; simpa [EI] using this
            clear q2
            cases hin : inB (nthK (kth t k) j) 0 ((t.length : Int) - 1)
            · have hr := Lib.hid (links_bad hlt hjl hin)
              go_wp2_with (go_at_call 70; refine (l1In_any _ _ _ _).mono ?_; rintro e w' ⟨rfl, rfl⟩)
              go_ret
              exact ⟨_, rfl, by rw [hr.out]; exact ownG_empty _ rfl (by omega), Below.alloc HB3.out (by omega) _⟩
            · go_wp2_with (go_at_call 70; refine (l1In_any _ _ _ _).mono ?_; rintro e w' ⟨rfl, rfl⟩)
              obtain ⟨z, hz⟩ : ∃ z, z = nthK (kth t k) j := ⟨_, rfl⟩
              have hpk := pre_kid hjl
              rw [← hz] at c2 hin hpk ⊢
              have hz2 : 0 ≤ z ∧ z ≤ (t.length : Int) - 1 := inB_iffL.1 hin
              obtain ⟨z0, z1⟩ := hz2
              have z2 : z < (t.length : Int) := by omega
              have hzn : z.toNat < t.length := by omega
              have hget := cntL_get (n := t.length) (P := pre t k j) hzn
              have hzz : ((z.toNat : Nat) : Int) = z := by omega
              rw [hzz] at hget
              obtain ⟨gg, og, hgg, hgl, hcell⟩ := (ownG_sl HO3.out).at_ hget
              cases hgg
              have c3 : wr.cell? ⟨w.heap.size, z.toNat, none⟩ = some (.int .i64 ((pre t k j).count z : Nat)) := by have := hcell 0 _ rfl; simpa [EI] using this
              have f3 : wr.frozen? ⟨w.heap.size, z.toNat, none⟩ = false := by
                have hh := HO3.out
                unfold OwnG at hh
                rw [cntL_len] at hh
                exact hh.frozenAt _
              have hcle := pre_count_le (j := j) z (Nat.le_of_lt hlt)
              have zc : IntKind.i64.wrap (((pre t k j).count z : Nat) + 1) = ((pre t k j).count z : Nat) + 1 := IntWalk.i64_in _ (by omega)
              have hst := (ownG_store (E := EI) (j := 0) (y := (((pre t k j).count z : Nat) : Int) + 1) (u := .int .i64 ((((pre t k j).count z : Nat) : Int) + 1)) HO3.out hget (show 0 < EI.z from by decide) rfl)
              obtain ⟨g2, eg2, hl1, hl2, hl3, hst⟩ := hst
              clear hl1 hl2 hl3
              cases eg2
              rw [cntL_snoc z0 z2, ← hpk] at hst
              have hst' : OwnG EI 3 w.heap.size (wr.setCell ⟨w.heap.size, z.toNat, none⟩ (.int .i64 (((pre t k j).count z : Nat) + 1))) (.slice (some ⟨w.heap.size, 0, none⟩) t.length t.length) (cntL t.length (pre t k (j + 1))) := by
                have h1 := hst
                rw [show z.toNat * EI.z + 0 = z.toNat from by show z.toNat * 1 + 0 = z.toNat; omega] at h1
                exact h1
              have Hst := Lib.hid hst'
              have Hpk := Lib.hid hpk
              have Hin := Lib.hid hin
              generalize (pre t k j).count z = cz at c3 zc Hst
              have hbz : b < wr.heap.size := hb
              clear hcell hst hst' hget hpk hin hzz hz hcle zn z1 hkc hcap h16 ht hkz
              go_still_tail 22, (by kernel_rfl)
              go_wp2
              go_roundw
              case rel => exact ⟨j + 1, hjl, by go_num, Hst.out, Below.drew (Below.setCell HB3.out (Nat.le_refl _) _), fun y hy => by
                rw [Hpk.out, List.mem_append, List.mem_singleton] at hy
                rcases hy with hy | rfl
                · exact Hall3.out y hy
                · exact Hin.out⟩
              case measure => simp [intOf, zj]; omega
          · obtain rfl : j = (kth t k).ks.length := by omega
            have hnx := pre_next hlt
            rw [hnx] at HO3 Hall3
            clear hnx
            go_wp2
            go_roundw
            case rel => exact ⟨k + 1, hlt, by go_num, HO3.out, HB3.out, Hall3.out⟩
            case measure => simp [intOf, zk]; omega
      · obtain rfl : k = t.length := by omega
        have hend := pre_end t
        rw [hend] at HO2 Hall
        have hr := Lib.hid (links_good (by omega) Hall.out)
        clear hend
        go_wp2
        go_ret
        exact ⟨_, rfl, by rw [hr.out]; exact HO2.out, HB.out⟩
end Go.Proofs.YtkennmpbmbacpaaGreatDoor

namespace Go.Proofs.YtkennmpbmbacpaaGreatDoor
open Go.RowKit

/-- By how many names node k is named. -/
def lnk (t : List Nd) (k : Nat) : Int := (((kidsOf t).count (k : Int) : Nat) : Int)
/-- Kid j of node k is no directory that is not after it. -/
def downB (t : List Nd) (k j : Nat) : Bool := !((kth t (nthK (kth t k) j).toNat).fo && decide (nthK (kth t k) j ≤ (k : Int)))
def rowB (t : List Nd) (k : Nat) : Bool := nodeB (t.length : Int) (kth t k) && (List.range (kth t k).ks.length).all (downB t k)
def namedB (t : List Nd) (k : Nat) : Bool := decide (k = 0) || (decide (1 ≤ lnk t k) && (!(kth t k).fo || decide (lnk t k ≤ 1)))
def treeB (t : List Nd) : Bool := inB (t.length : Int) 1 16 && ((kth t 0).fo && ((List.range t.length).all (rowB t) && (List.range t.length).all (namedB t)))
theorem tree_len {t : List Nd} (h : inB (t.length : Int) 1 16 = false) : treeB t = false := by unfold treeB; rw [h]; rfl
theorem tree_top {t : List Nd} (h : (kth t 0).fo = false) : treeB t = false := by unfold treeB; rw [h, Bool.false_and, Bool.and_false]
theorem tree_row {t : List Nd} {k : Nat} (hk : k < t.length) (h : rowB t k = false) : treeB t = false := by
  unfold treeB; rw [all_bad hk h, Bool.false_and, Bool.and_false, Bool.and_false]
theorem tree_named {t : List Nd} {k : Nat} (hk : k < t.length) (h : namedB t k = false) : treeB t = false := by
  unfold treeB; rw [all_bad hk h, Bool.and_false, Bool.and_false, Bool.and_false]
theorem tree_good {t : List Nd} (h1 : inB (t.length : Int) 1 16 = true) (h2 : (kth t 0).fo = true) (h3 : ∀ k, k < t.length → rowB t k = true) (h4 : ∀ k, k < t.length → namedB t k = true) : treeB t = true := by
  unfold treeB; rw [h1, h2, all_good h3, all_good h4]; rfl
theorem tree_all {t : List Nd} (h : treeB t = true) : inB (t.length : Int) 1 16 = true ∧ (kth t 0).fo = true ∧ (∀ k, k < t.length → rowB t k = true) ∧ ∀ k, k < t.length → namedB t k = true := by
  unfold treeB at h
  simp only [Bool.and_eq_true] at h
  obtain ⟨h1, h2, h3, h4⟩ := h
  exact ⟨h1, h2, fun k hk => List.all_eq_true.1 h3 k (List.mem_range.2 hk), fun k hk => List.all_eq_true.1 h4 k (List.mem_range.2 hk)⟩
theorem row_node {t : List Nd} {k : Nat} (h : nodeB (t.length : Int) (kth t k) = false) : rowB t k = false := by unfold rowB; rw [h]; rfl
theorem row_down {t : List Nd} {k j : Nat} (hj : j < (kth t k).ks.length) (h : downB t k j = false) : rowB t k = false := by
  unfold rowB; rw [all_bad hj h, Bool.and_false]
theorem row_good {t : List Nd} {k : Nat} (h : nodeB (t.length : Int) (kth t k) = true) (h2 : ∀ j, j < (kth t k).ks.length → downB t k j = true) : rowB t k = true := by
  unfold rowB; rw [h, all_good h2]; rfl
/-- What a right node says of its kids. -/
theorem node_kids {many : Int} {x : Nd} (h : nodeB many x = true) : x.ns.length = x.ks.length ∧ ∀ j, j < x.ks.length → 1 ≤ nthK x j ∧ nthK x j ≤ many - 1 := by
  unfold nodeB headB at h
  simp only [Bool.and_eq_true, decide_eq_true_eq] at h
  obtain ⟨⟨_, _, _, h4, _⟩, h5⟩ := h
  refine ⟨h4, fun j hj => ?_⟩
  have := List.all_eq_true.1 h5 j (List.mem_range.2 (by omega))
  unfold kidOk at this
  simp only [Bool.and_eq_true] at this
  exact inB_iffL.1 this.2.1
/-- Where all nodes are right all kids are numbers of nodes, and LinksOf counts. -/
theorem links_of_rows {t : List Nd} (hl : t.length ≤ 16) (h : ∀ k, k < t.length → rowB t k = true) : linksF t = cntL t.length (kidsOf t) := by
  refine links_good hl fun z hz => ?_
  unfold kidsOf at hz
  obtain ⟨x, hx, hz⟩ := List.mem_flatMap.1 hz
  obtain ⟨k, hk, e⟩ := List.mem_iff_getElem.1 hx
  have hk2 := h k hk
  have hkx : kth t k = x := by
    have := kth_at hk
    rw [List.getElem?_eq_getElem hk, e] at this
    injection this with this
    exact this.symm
  unfold rowB at hk2
  rw [Bool.and_eq_true, hkx] at hk2
  obtain ⟨j, hj, ej⟩ := List.mem_iff_getElem.1 hz
  have hj2 := (node_kids hk2.1).2 j hj
  have hjx : nthK x j = z := by
    have := nthK_at hj
    rw [List.getElem?_eq_getElem hj, ej] at this
    injection this with this
    exact this.symm
  rw [hjx] at hj2
  exact inB_iffL.2 ⟨by omega, hj2.2⟩
end Go.Proofs.YtkennmpbmbacpaaGreatDoor

namespace Go.Proofs.YtkennmpbmbacpaaGreatDoor
open Go.RowKit

set_option maxRecDepth 100000 in
set_option maxHeartbeats 8000000 in
theorem treeS_of (v : Value) (t : List Nd) (w : World) (h : TreeR w v t) (ht : t.length ≤ 1000) (hkz : (kidsOf t).length ≤ 1000000) :
    Calls Tryz.prog 78 #[v] w fun e w' => e = .returned (.bool (treeB t)) ∧ Below w.heap.size w w' := by
  have H := Lib.hid h
  have hlk := fun w h => linksS_of v t w h ht hkz
  obtain ⟨A, cap, rfl⟩ := h.shape
  have Hlk := Lib.hid hlk
  have hcap := h.caps
  clear h hlk
  cases g1 : inB (t.length : Int) 1 16
  · have hr := Lib.hid (tree_len g1)
    go_enter Tryz.func78, Tryz.ntmps78
    go_wp2_with (go_at_call 70; refine (l1In_any _ _ _ _).mono ?_; rintro e w' ⟨rfl, rfl⟩)
    go_ret
    exact ⟨by rw [hr.out]; rfl, (by (repeat (first | exact Below.refl _ _ | exact Hbl.out | refine Below.ext ?_ (by first | omega | (simp; omega) | simp) | refine Below.setCell ?_ (by first | omega | (simp; omega) | simp) _ | refine Below.alloc ?_ (by first | omega | (simp; omega) | simp) _ | refine Below.drew ?_ | refine below_drewN ?_ _ | refine Below.step (by assumption) (by first | omega | (simp; omega) | simp) ?_)))⟩
  · obtain ⟨n1, n2⟩ := inB_iffL.1 g1
    have n3 : 0 < t.length := by omega
    have n4 : (0 : Int) < (t.length : Int) := by omega
    obtain ⟨b, off, nA, nC, kA, kC, rfl, hb, _, q0, _, _, _, _, _, _⟩ := H.out.at_ (kth_at n3)
    rw [Nat.zero_mul, Nat.add_zero] at q0
    cases g2 : (kth t 0).fo
    · have hr := Lib.hid (tree_top g2)
      rw [g2] at q0
      go_enter Tryz.func78, Tryz.ntmps78
      go_wp2_with (go_at_call 70; refine (l1In_any _ _ _ _).mono ?_; rintro e w' ⟨rfl, rfl⟩)
      go_ret
      exact ⟨by rw [hr.out]; rfl, (by (repeat (first | exact Below.refl _ _ | exact Hbl.out | refine Below.ext ?_ (by first | omega | (simp; omega) | simp) | refine Below.setCell ?_ (by first | omega | (simp; omega) | simp) _ | refine Below.alloc ?_ (by first | omega | (simp; omega) | simp) _ | refine Below.drew ?_ | refine below_drewN ?_ _ | refine Below.step (by assumption) (by first | omega | (simp; omega) | simp) ?_)))⟩
    · rw [g2] at q0
      go_enter Tryz.func78, Tryz.ntmps78
      go_wp2_with (go_at_call 70; refine (l1In_any _ _ _ _).mono ?_; rintro e w' ⟨rfl, rfl⟩)
      clear q0
      go_loopw [3] (fun i wr => ∃ k : Nat, k ≤ t.length ∧ i = .int .i64 k ∧ Below w.heap.size w wr ∧ ∀ m, m < k → rowB t m = true) (fun i _ => t.length - (intOf i).toNat)
      case atStart => exact ⟨0, Nat.zero_le _, rfl, Below.refl _ _, fun m hm => by omega⟩
      case round =>
        obtain ⟨k, hk, rfl, hB, hall⟩ := hrel
        have HB := Lib.hid hB
        have Hall := Lib.hid hall
        have hz1 := hB.size
        have zk : IntKind.i64.wrap ((k : Int) + 1) = (k : Int) + 1 := IntWalk.i64_in _ (by omega)
        by_cases hlt : k < t.length
        · have hT := H.out.below hB
          obtain ⟨b', off', nA, nC, kA, kC, ee, hb', hS, q0, q1, q2, q3, q4, q5, q6⟩ := hT.at_ (kth_at hlt)
          cases ee
          have HT := Lib.hid hT
          have HS := Lib.hid hS
          have hkc := hS.ks.caps
          have hlt' : (k : Int) < (t.length : Int) := by omega
          clear hB hall hT hS
          go_wp2_with fail
          refine (nodeS_of _ _ _ _ _ _ _ HS.out (by omega) (by omega)).mono ?_
          rintro e w2 ⟨rfl, hb2⟩
          have B2 := Lib.hid (Below.step hb2 hz1 HB.out)
          have hz2 := B2.out.size
          clear hb2 HB q0 q1 q2 q3 q4 q5 q6 HS HT hkc hb'
          cases hn : nodeB (t.length : Int) (kth t k)
          · have hr := Lib.hid (tree_row hlt (row_node hn))
            go_wp2
            go_ret
            exact ⟨by rw [hr.out]; rfl, B2.out⟩
          · have hkd := Lib.hid (node_kids hn).2
            have Hn := Lib.hid hn
            clear hn
            go_wp2
            go_loopw [4] (fun i wr => ∃ j : Nat, j ≤ (kth t k).ks.length ∧ i = .int .i64 j ∧ Below w.heap.size w wr ∧ ∀ m, m < j → downB t k m = true) (fun i _ => (kth t k).ks.length - (intOf i).toNat)
            case atStart => exact ⟨0, Nat.zero_le _, rfl, B2.out, fun m hm => by omega⟩
            case round =>
              obtain ⟨j, hj, rfl, hB, hdn⟩ := hrel
              have HB := Lib.hid hB
              have Hdn := Lib.hid hdn
              have hz3 := hB.size
              have hT := H.out.below hB
              obtain ⟨b', off', nA, nC, kA, kC, ee, hb', hS, _, _, _, _, _, _, q6⟩ := hT.at_ (kth_at hlt)
              cases ee
              have hkc := hS.ks.caps
              have HT := Lib.hid hT
              have HS := Lib.hid hS
              clear hB hdn hT hS B2
              by_cases hjl : j < (kth t k).ks.length
              · have zj : IntKind.i64.wrap ((j : Int) + 1) = (j : Int) + 1 := IntWalk.i64_in _ (by omega)
                obtain ⟨b2, o2, rfl, hb2, c⟩ := HS.out.ks.at_ (nthK_at hjl)
                have c2 : wr.cell? ⟨b2, o2 + j, none⟩ = some (.int .i64 (nthK (kth t k) j)) := by have := c 0 _ rfl; simpa [EI] using this
                obtain ⟨z0, z1⟩ := hkd.out j hjl
                have hzd : ∀ x, downB t k j = x ↔ (!((kth t (nthK (kth t k) j).toNat).fo && decide (nthK (kth t k) j ≤ (k : Int)))) = x := fun x => Iff.rfl
                have Hzd := Lib.hid hzd
                generalize nthK (kth t k) j = z at c2 z0 z1 Hzd
                obtain ⟨b', off', nA', nC', kA', kC', ee, _, _, p0, _⟩ := HT.out.at_ (kth_at (show z.toNat < t.length by omega))
                cases ee
                have z2 : (0 : Int) ≤ z := by omega
                have z3 : z < (t.length : Int) := by omega
                have hjl' : (j : Int) < ((kth t k).ks.length : Int) := by omega
                clear c hzd z0 z1
                cases hf : (kth t z.toNat).fo
                · rw [hf] at p0
                  have hd := Lib.hid ((Hzd.out true).2 (by rw [hf]; rfl))
                  go_wp2
                  go_roundw
                  case rel => exact ⟨j + 1, hjl, by go_num, HB.out, fun m hm => by
                    by_cases e : m = j
                    · subst e; exact hd.out
                    · exact Hdn.out m (by omega)⟩
                  case measure => simp [intOf, zj]; omega
                · rw [hf] at p0
                  by_cases hle : z ≤ (k : Int)
                  · have hd := Lib.hid (tree_row hlt (row_down hjl ((Hzd.out false).2 (by rw [hf]; simp [hle]))))
                    go_wp2
                    go_ret
                    exact ⟨by rw [hd.out]; rfl, HB.out⟩
                  · have hd := Lib.hid ((Hzd.out true).2 (by rw [hf]; simp [hle]))
                    go_wp2
                    go_roundw
                    case rel => exact ⟨j + 1, hjl, by go_num, HB.out, fun m hm => by
                      by_cases e : m = j
                      · subst e; exact hd.out
                      · exact Hdn.out m (by omega)⟩
                    case measure => simp [intOf, zj]; omega
              · obtain rfl : j = (kth t k).ks.length := by omega
                have hrow := Lib.hid (row_good Hn.out Hdn.out)
                go_wp2
                go_roundw
                case rel => exact ⟨k + 1, hlt, by go_num, HB.out, fun m hm => by
                  by_cases e : m = k
                  · subst e; exact hrow.out
                  · exact Hall.out m (by omega)⟩
                case measure => simp [intOf, zk]; omega
        · obtain rfl : k = t.length := by omega
          have hl := Lib.hid (links_of_rows (by omega) Hall.out)
          clear hB hall
          go_wp2_with fail
          refine (Hlk.out _ (H.out.below HB.out)).mono ?_
          rintro e w2 ⟨v', rfl, hO, hb2⟩
          rw [hl.out] at hO
          have hsl := ownG_sl hO
          obtain ⟨A', c', rfl⟩ := hsl.shape
          have hcs := hsl.caps
          rw [cntL_len] at hcs
          have Hsl := Lib.hid hsl
          have B2 := Lib.hid (Below.step hb2 hz1 HB.out)
          have hlen := cntL_len t.length (kidsOf t)
          rw [hlen]
          clear hO hsl hb2 hlen
          go_wp2
          go_loopw [6] (fun i wr => ∃ k : Nat, 1 ≤ k ∧ k ≤ t.length ∧ i = .int .i64 k ∧ Below w2.heap.size w2 wr ∧ ∀ m, m < k → namedB t m = true) (fun i _ => t.length - (intOf i).toNat)
          case atStart => exact ⟨1, Nat.le_refl _, n3, rfl, Below.refl _ _, fun m hm => by
            obtain rfl : m = 0 := by omega
            rfl⟩
          case round =>
            obtain ⟨k, hk1, hk, rfl, hB, hnm⟩ := hrel
            have B3 := Lib.hid (Below.step hB B2.out.size B2.out)
            have Hnm := Lib.hid hnm
            by_cases hlt : k < t.length
            · have zk : IntKind.i64.wrap ((k : Int) + 1) = (k : Int) + 1 := IntWalk.i64_in _ (by omega)
              have HB2 := Lib.hid hB
              obtain ⟨b3, o3, rfl, hb3, c⟩ := (Hsl.out.below hB).at_ (cntL_get hlt)
              have c3 : wr.cell? ⟨b3, o3 + k, none⟩ = some (.int .i64 (lnk t k)) := by have := c 0 _ rfl; simpa [EI, lnk] using this
              obtain ⟨b', off', nA', nC', kA', kC', ee, _, _, p0, _⟩ := (H.out.below B3.out).at_ (kth_at hlt)
              cases ee
              have hlt' : (k : Int) < (t.length : Int) := by omega
              have hx : ∀ x, namedB t k = x ↔ (decide (k = 0) || (decide (1 ≤ lnk t k) && (!(kth t k).fo || decide (lnk t k ≤ 1)))) = x := fun x => Iff.rfl
              have Hx := Lib.hid hx
              generalize lnk t k = z at c3 Hx
              clear hB hnm c hx
              have hk0 : ¬ k = 0 := by omega
              by_cases z1 : z < 1
              · have z1' : ¬ 1 ≤ z := by omega
                have hr := Lib.hid (tree_named hlt ((Hx.out false).2 (by simp [hk0, z1'])))
                go_wp2
                go_ret
                exact ⟨by rw [hr.out]; rfl, B3.out⟩
              · have z1' : 1 ≤ z := by omega
                cases hf : (kth t k).fo
                · rw [hf] at p0
                  have hd := Lib.hid ((Hx.out true).2 (by rw [hf]; simp [z1']))
                  go_wp2
                  go_roundw
                  case rel => exact ⟨k + 1, by omega, hlt, by go_num, HB2.out, fun m hm => by
                    by_cases e : m = k
                    · subst e; exact hd.out
                    · exact Hnm.out m (by omega)⟩
                  case measure => simp [intOf, zk]; omega
                · rw [hf] at p0
                  by_cases z2 : 1 < z
                  · have z2' : ¬ z ≤ 1 := by omega
                    have hr := Lib.hid (tree_named hlt ((Hx.out false).2 (by rw [hf]; simp [hk0, z2'])))
                    go_wp2
                    go_ret
                    exact ⟨by rw [hr.out]; rfl, B3.out⟩
                  · have z2' : z ≤ 1 := by omega
                    have hd := Lib.hid ((Hx.out true).2 (by rw [hf]; simp [z1', z2']))
                    go_wp2
                    go_roundw
                    case rel => exact ⟨k + 1, by omega, hlt, by go_num, HB2.out, fun m hm => by
                      by_cases e : m = k
                      · subst e; exact hd.out
                      · exact Hnm.out m (by omega)⟩
                    case measure => simp [intOf, zk]; omega
            · have hr := Lib.hid (tree_good g1 g2 Hall.out (fun m hm => Hnm.out m (by omega)))
              clear hB hnm
              go_wp2
              go_ret
              exact ⟨by rw [hr.out]; rfl, B3.out⟩
end Go.Proofs.YtkennmpbmbacpaaGreatDoor

namespace Go.Proofs.YtkennmpbmbacpaaGreatDoor
open Go.RowKit

/-- The kid by a name, or -1. -/
def kidF (x : Nd) (s : List UInt8) : Int := if s ∈ x.ns then nthK x (x.ns.idxOf s) else -1
theorem nthN_at {x : Nd} {j : Nat} (h : j < x.ns.length) : x.ns[j]? = some (nthN x j) := by
  unfold nthN
  rw [List.getD_eq_getElem?_getD, List.getElem?_eq_getElem h]; rfl
theorem kid_none {x : Nd} {s : List UInt8} (h : ∀ m, m < x.ns.length → ¬ nthN x m = s) : kidF x s = -1 := by
  unfold kidF
  rw [if_neg]
  intro hs
  obtain ⟨m, hm, e⟩ := List.mem_iff_getElem.1 hs
  have := nthN_at hm
  rw [List.getElem?_eq_getElem hm, e] at this
  injection this with this
  exact h m hm this.symm
theorem idx_first : ∀ (l : List (List UInt8)) (s : List UInt8) (k : Nat), l[k]? = some s → (∀ m, m < k → ¬ l.getD m [] = s) → l.idxOf s = k
  | [], s, k, h, _ => by simp at h
  | a :: r, s, 0, h, _ => by simp at h; subst h; simp
  | a :: r, s, k + 1, h, hn => by
    have h0 : ¬ a = s := by have := hn 0 (by omega); simpa using this
    rw [List.idxOf_cons]
    have hb : (a == s) = false := by simpa using h0
    rw [hb, cond_false, idx_first r s k (by simpa using h) (fun m hm => by have := hn (m + 1) (by omega); simpa using this)]
theorem kid_some {x : Nd} {s : List UInt8} {k : Nat} (hk : k < x.ns.length) (e : nthN x k = s) (h : ∀ m, m < k → ¬ nthN x m = s) : kidF x s = nthK x k := by
  have hx := nthN_at hk
  rw [e] at hx
  unfold kidF
  rw [if_pos (List.mem_of_getElem? hx), idx_first x.ns s k hx h]
set_option maxRecDepth 100000 in
set_option maxHeartbeats 4000000 in
theorem kidS_of (nA : Option Addr) (nC : Nat) (kA : Option Addr) (kC : Nat) (x : Nd) (s : List UInt8) (w : World) (h : NdS w nA nC kA kC x) (hl : x.ns.length = x.ks.length) :
    Calls Tryz.prog 87 #[.agg #[.bool x.fo, .int .i64 x.ow, .int .i64 x.gr, .int .i64 x.mo, .string x.tx, .slice nA x.ns.length nC, .slice kA x.ks.length kC], .string (mk s)] w fun e w' => e = .returned (.int .i64 (kidF x s)) ∧ Below w.heap.size w w' := by
  have Hns := Lib.hid h.ns
  have Hks := Lib.hid h.ks
  have hc1 := h.ns.caps
  have hl' : (x.ns.length : Int) = (x.ks.length : Int) := by omega
  have Hl := Lib.hid hl
  clear h hl
  go_enter Tryz.func87, Tryz.ntmps87
  go_wp2
  go_loopw [5] (fun i wr => ∃ k : Nat, k ≤ x.ns.length ∧ i = .int .i64 k ∧ wr = w.alloc (.cells #[.bool x.fo, .int .i64 x.ow, .int .i64 x.gr, .int .i64 x.mo, .string x.tx, .slice nA x.ns.length nC, .slice kA x.ks.length kC] 44) ∧ ∀ m, m < k → ¬ nthN x m = s) (fun i _ => x.ns.length - (intOf i).toNat)
  case atStart => exact ⟨0, Nat.zero_le _, rfl, rfl, fun m hm => by omega⟩
  case round =>
    obtain ⟨k, hk, rfl, rfl, hall⟩ := hrel
    have Hall := Lib.hid hall
    clear hall
    by_cases hlt : k < x.ns.length
    · obtain ⟨b1, o1, rfl, hb1, q1⟩ := Hns.out.at_ (nthN_at hlt)
      have hlk : k < x.ks.length := by have := Hl.out; omega
      obtain ⟨b2, o2, rfl, hb2, q2⟩ := Hks.out.at_ (nthK_at hlk)
      have c1 : w.cell? ⟨b1, o1 + k, none⟩ = some (.string (mk (nthN x k))) := by have := q1 0 _ rfl; simpa [EL] using this
      have c2 : w.cell? ⟨b2, o2 + k, none⟩ = some (.int .i64 (nthK x k)) := by have := q2 0 _ rfl; simpa [EI] using this
      have zk : IntKind.i64.wrap ((k : Int) + 1) = (k : Int) + 1 := IntWalk.i64_in _ (by omega)
      clear q1 q2
      by_cases e : nthN x k = s
      · have hr := Lib.hid (kid_some hlt e Hall.out)
        have e1 : (mk (nthN x k)).toList = (mk s).toList := by rw [e]
        clear e
        go_wp2
        go_ret
        exact ⟨by rw [hr.out]; rfl, (by (repeat (first | exact Below.refl _ _ | exact Hbl.out | refine Below.ext ?_ (by first | omega | (simp; omega) | simp) | refine Below.setCell ?_ (by first | omega | (simp; omega) | simp) _ | refine Below.alloc ?_ (by first | omega | (simp; omega) | simp) _ | refine Below.drew ?_ | refine below_drewN ?_ _ | refine Below.step (by assumption) (by first | omega | (simp; omega) | simp) ?_)))⟩
      · have e1 : ¬ (mk (nthN x k)).toList = (mk s).toList := by rw [mk_toList, mk_toList]; exact e
        have e2 : ((mk (nthN x k)).toList == (mk s).toList) = false := beq_eq_false_iff_ne.2 e1
        have He := Lib.hid e
        clear e
        go_wp2
        go_roundw
        case rel => exact ⟨k + 1, hlt, by go_num, by first | trivial | rfl, fun m hm => by
          by_cases e : m = k
          · subst e; exact He.out
          · exact Hall.out m (by omega)⟩
        case measure => simp [intOf, zk]; omega
    · have hr := Lib.hid (kid_none (x := x) (s := s) (fun m hm => Hall.out m (by omega)))
      go_wp2
      go_ret
      exact ⟨by rw [hr.out]; rfl, (by (repeat (first | exact Below.refl _ _ | exact Hbl.out | refine Below.ext ?_ (by first | omega | (simp; omega) | simp) | refine Below.setCell ?_ (by first | omega | (simp; omega) | simp) _ | refine Below.alloc ?_ (by first | omega | (simp; omega) | simp) _ | refine Below.drew ?_ | refine below_drewN ?_ _ | refine Below.step (by assumption) (by first | omega | (simp; omega) | simp) ?_)))⟩
end Go.Proofs.YtkennmpbmbacpaaGreatDoor

namespace Go.Proofs.YtkennmpbmbacpaaGreatDoor
open Go.RowKit

def credB (a b c d : Int) : Bool := inB a 0 99 && (inB b 0 99 && (inB c 0 99 && inB d 0 255))
set_option maxHeartbeats 4000000 in
theorem credS_any (a b c d : Int) (w : World) : Calls Tryz.prog 79 #[.agg #[.int .i64 a, .int .i64 b, .int .i64 c, .int .i64 d]] w fun e w' => e = .returned (.bool (credB a b c d)) ∧ Below w.heap.size w w' := by
  unfold credB
  rcases and4 (inB a 0 99) (inB b 0 99) (inB c 0 99) (inB d 0 255) with g1 | ⟨g1, g2⟩ | ⟨g1, g2, g3⟩ | ⟨g1, g2, g3, g4⟩ | ⟨g1, g2, g3, g4⟩
  all_goals
    go_enter Tryz.func79, Tryz.ntmps79
    go_wp2_with (go_at_call 70; refine (l1In_any _ _ _ _).mono ?_; rintro e w' ⟨rfl, rfl⟩)
    go_ret
    exact ⟨by simp [*], (by (repeat (first | exact Below.refl _ _ | exact Hbl.out | refine Below.ext ?_ (by first | omega | (simp; omega) | simp) | refine Below.setCell ?_ (by first | omega | (simp; omega) | simp) _ | refine Below.alloc ?_ (by first | omega | (simp; omega) | simp) _ | refine Below.drew ?_ | refine below_drewN ?_ _ | refine Below.step (by assumption) (by first | omega | (simp; omega) | simp) ?_)))⟩
/-- The group is among the groups. -/
def groupB (groups group : Int) : Bool := inB groups 0 255 && (inB group 0 7 && ((groups / 2 ^ group.toNat).tmod 2 == 1))
set_option maxHeartbeats 4000000 in
theorem hasGroupS_any (groups group : Int) (w : World) : Calls Tryz.prog 143 #[.int .i64 groups, .int .i64 group] w fun e w' => e = .returned (.bool (groupB groups group)) ∧ w = w' := by
  unfold groupB
  rcases and3 (inB groups 0 255) (inB group 0 7) true with g1 | ⟨g1, g2⟩ | ⟨g1, g2, g3⟩ | ⟨g1, g2, g3⟩
  · go_enter Tryz.func143, Tryz.ntmps143
    go_wp2_with (go_at_call 70; refine (l1In_any _ _ _ _).mono ?_; rintro e w' ⟨rfl, rfl⟩)
    go_ret
    exact ⟨by simp [*], rfl⟩
  · go_enter Tryz.func143, Tryz.ntmps143
    go_wp2_with (go_at_call 70; refine (l1In_any _ _ _ _).mono ?_; rintro e w' ⟨rfl, rfl⟩)
    go_ret
    exact ⟨by simp [*], rfl⟩
  · cases g3
  · obtain ⟨h0, h1⟩ := inB_iffL.1 g2
    go_enter Tryz.func143, Tryz.ntmps143
    go_wp2_with (go_at_call 70; refine (l1In_any _ _ _ _).mono ?_; rintro e w' ⟨rfl, rfl⟩)
    go_ret
    exact ⟨by simp [*], rfl⟩
/-- Which rights count. -/
def classF (a b c d owner group : Int) : Int := if credB a b c d = true ∧ inB owner 0 99 = true ∧ inB group 0 7 = true then (if b = owner then 0 else if groupB d group = true then 1 else 2) else -1
set_option maxHeartbeats 4000000 in
theorem classS_any (a b c d owner group : Int) (w : World) : Calls Tryz.prog 131 #[.agg #[.int .i64 a, .int .i64 b, .int .i64 c, .int .i64 d], .int .i64 owner, .int .i64 group] w fun e w' => e = .returned (.int .i64 (classF a b c d owner group)) ∧ Below w.heap.size w w' := by
  unfold classF
  rcases and3 (credB a b c d) (inB owner 0 99) (inB group 0 7) with g1 | ⟨g1, g2⟩ | ⟨g1, g2, g3⟩ | ⟨g1, g2, g3⟩
  · go_enter Tryz.func131, Tryz.ntmps131
    go_wp2_with (first | (go_at_call 70; refine (l1In_any _ _ _ _).mono ?_; rintro e w' ⟨rfl, rfl⟩) | (go_at_call 79; refine (credS_any _ _ _ _ _).mono ?_; rintro e w' ⟨rfl, hb⟩; obtain ⟨d1, os1, rfl⟩ := ext_of_below hb; clear hb))
    all_goals
      go_ret
      exact ⟨by simp [*], (by (repeat (first | exact Below.refl _ _ | exact Hbl.out | refine Below.ext ?_ (by first | omega | (simp; omega) | simp) | refine Below.setCell ?_ (by first | omega | (simp; omega) | simp) _ | refine Below.alloc ?_ (by first | omega | (simp; omega) | simp) _ | refine Below.drew ?_ | refine below_drewN ?_ _ | refine Below.step (by assumption) (by first | omega | (simp; omega) | simp) ?_)))⟩
  · go_enter Tryz.func131, Tryz.ntmps131
    go_wp2_with (first | (go_at_call 70; refine (l1In_any _ _ _ _).mono ?_; rintro e w' ⟨rfl, rfl⟩) | (go_at_call 79; refine (credS_any _ _ _ _ _).mono ?_; rintro e w' ⟨rfl, hb⟩; obtain ⟨d1, os1, rfl⟩ := ext_of_below hb; clear hb))
    all_goals
      go_ret
      exact ⟨by simp [*], (by (repeat (first | exact Below.refl _ _ | exact Hbl.out | refine Below.ext ?_ (by first | omega | (simp; omega) | simp) | refine Below.setCell ?_ (by first | omega | (simp; omega) | simp) _ | refine Below.alloc ?_ (by first | omega | (simp; omega) | simp) _ | refine Below.drew ?_ | refine below_drewN ?_ _ | refine Below.step (by assumption) (by first | omega | (simp; omega) | simp) ?_)))⟩
  · go_enter Tryz.func131, Tryz.ntmps131
    go_wp2_with (first | (go_at_call 70; refine (l1In_any _ _ _ _).mono ?_; rintro e w' ⟨rfl, rfl⟩) | (go_at_call 79; refine (credS_any _ _ _ _ _).mono ?_; rintro e w' ⟨rfl, hb⟩; obtain ⟨d1, os1, rfl⟩ := ext_of_below hb; clear hb))
    all_goals
      go_ret
      exact ⟨by simp [*], (by (repeat (first | exact Below.refl _ _ | exact Hbl.out | refine Below.ext ?_ (by first | omega | (simp; omega) | simp) | refine Below.setCell ?_ (by first | omega | (simp; omega) | simp) _ | refine Below.alloc ?_ (by first | omega | (simp; omega) | simp) _ | refine Below.drew ?_ | refine below_drewN ?_ _ | refine Below.step (by assumption) (by first | omega | (simp; omega) | simp) ?_)))⟩
  · by_cases ho : b = owner
    · go_enter Tryz.func131, Tryz.ntmps131
      go_wp2_with (first | (go_at_call 70; refine (l1In_any _ _ _ _).mono ?_; rintro e w' ⟨rfl, rfl⟩) | (go_at_call 79; refine (credS_any _ _ _ _ _).mono ?_; rintro e w' ⟨rfl, hb⟩; obtain ⟨d1, os1, rfl⟩ := ext_of_below hb; clear hb))
      all_goals
        go_ret
        exact ⟨by simp [*], (by (repeat (first | exact Below.refl _ _ | exact Hbl.out | refine Below.ext ?_ (by first | omega | (simp; omega) | simp) | refine Below.setCell ?_ (by first | omega | (simp; omega) | simp) _ | refine Below.alloc ?_ (by first | omega | (simp; omega) | simp) _ | refine Below.drew ?_ | refine below_drewN ?_ _ | refine Below.step (by assumption) (by first | omega | (simp; omega) | simp) ?_)))⟩
    · cases hg : groupB d group
      all_goals
        go_enter Tryz.func131, Tryz.ntmps131
        go_wp2_with (first | (go_at_call 70; refine (l1In_any _ _ _ _).mono ?_; rintro e w' ⟨rfl, rfl⟩) | (go_at_call 143; refine (hasGroupS_any _ _ _).mono ?_; rintro e w' ⟨rfl, rfl⟩) | (go_at_call 79; refine (credS_any _ _ _ _ _).mono ?_; rintro e w' ⟨rfl, hb⟩; obtain ⟨d1, os1, rfl⟩ := ext_of_below hb; clear hb))
        all_goals
          go_ret
          exact ⟨by simp [*], (by (repeat (first | exact Below.refl _ _ | exact Hbl.out | refine Below.ext ?_ (by first | omega | (simp; omega) | simp) | refine Below.setCell ?_ (by first | omega | (simp; omega) | simp) _ | refine Below.alloc ?_ (by first | omega | (simp; omega) | simp) _ | refine Below.drew ?_ | refine below_drewN ?_ _ | refine Below.step (by assumption) (by first | omega | (simp; omega) | simp) ?_)))⟩
/-- The rights of a class in a mode. -/
def rightsF (mode cl : Int) : Int := (mode / 2 ^ (6 - 3 * cl).toNat).tmod 8
set_option maxHeartbeats 4000000 in
theorem rightsS_in (mode cl : Int) (w : World) (h1 : inB mode 0 1023 = true) (h2 : cl = 0 ∨ cl = 1 ∨ cl = 2) : Calls Tryz.prog 132 #[.int .i64 mode, .int .i64 cl] w fun e w' => e = .returned (.int .i64 (rightsF mode cl)) ∧ w = w' := by
  unfold rightsF
  have h3 : inB cl 0 2 = true := by rcases h2 with rfl | rfl | rfl <;> decide
  rcases h2 with rfl | rfl | rfl
  all_goals
    go_enter Tryz.func132, Tryz.ntmps132
    go_wp2_with (go_at_call 70; refine (l1In_any _ _ _ _).mono ?_; rintro e w' ⟨rfl, rfl⟩)
    go_ret
    exact ⟨by simp [Act.tmps], rfl⟩
end Go.Proofs.YtkennmpbmbacpaaGreatDoor

namespace Go.Proofs.YtkennmpbmbacpaaGreatDoor
open Go.RowKit

def someF (mode : Int) : Int := bits .or .i64 (bits .or .i64 (rightsF mode 0) (rightsF mode 1)) (rightsF mode 2)
def mayF (a b c d owner group mode want : Int) : Bool :=
  decide (0 ≤ classF a b c d owner group) && (inB mode 0 1023 && (inB want 0 7 && (if b = 0 then (want.tmod 2 == 0 || (someF mode).tmod 2 == 1) else bits .and .i64 (rightsF mode (classF a b c d owner group)) want == want)))
theorem class_012 {a b c d o g : Int} (h : 0 ≤ classF a b c d o g) : classF a b c d o g = 0 ∨ classF a b c d o g = 1 ∨ classF a b c d o g = 2 := by
  unfold classF at h ⊢
  split
  · split
    · exact .inl rfl
    · split
      · exact .inr (.inl rfl)
      · exact .inr (.inr rfl)
  · next hn => rw [if_neg hn] at h; omega
set_option maxRecDepth 100000 in
set_option maxHeartbeats 4000000 in
theorem mayS_any (a b c d owner group mode want : Int) (w : World) : Calls Tryz.prog 115 #[.agg #[.int .i64 a, .int .i64 b, .int .i64 c, .int .i64 d], .int .i64 owner, .int .i64 group, .int .i64 mode, .int .i64 want] w fun e w' => e = .returned (.bool (mayF a b c d owner group mode want)) ∧ Below w.heap.size w w' := by
  have hC := fun w => classS_any a b c d owner group w
  have h012 := @class_012 a b c d owner group
  unfold mayF
  generalize classF a b c d owner group = cl at hC h012
  have HC := Lib.hid hC
  clear hC
  rcases and3 (decide (0 ≤ cl)) (inB mode 0 1023) (inB want 0 7) with g1 | ⟨g1, g2⟩ | ⟨g1, g2, g3⟩ | ⟨g1, g2, g3⟩
  · have g1' : cl < 0 := by simpa using g1
    go_enter Tryz.func115, Tryz.ntmps115
    go_wp2_with (first | (go_at_call 70; refine (l1In_any _ _ _ _).mono ?_; rintro e w' ⟨rfl, rfl⟩) | (go_at_call 131; refine (HC.out _).mono ?_; rintro e w' ⟨rfl, hb⟩; obtain ⟨d1, os1, rfl⟩ := ext_of_below hb; clear hb))
    all_goals
      go_ret
      exact ⟨by simp [*], (by (repeat (first | exact Below.refl _ _ | exact Hbl.out | refine Below.ext ?_ (by first | omega | (simp; omega) | simp) | refine Below.setCell ?_ (by first | omega | (simp; omega) | simp) _ | refine Below.alloc ?_ (by first | omega | (simp; omega) | simp) _ | refine Below.drew ?_ | refine below_drewN ?_ _ | refine Below.step (by assumption) (by first | omega | (simp; omega) | simp) ?_)))⟩
  · have g1' : ¬ cl < 0 := by have : 0 ≤ cl := by simpa using g1
                              omega
    go_enter Tryz.func115, Tryz.ntmps115
    go_wp2_with (first | (go_at_call 70; refine (l1In_any _ _ _ _).mono ?_; rintro e w' ⟨rfl, rfl⟩) | (go_at_call 131; refine (HC.out _).mono ?_; rintro e w' ⟨rfl, hb⟩; obtain ⟨d1, os1, rfl⟩ := ext_of_below hb; clear hb))
    all_goals
      go_ret
      exact ⟨by simp [*], (by (repeat (first | exact Below.refl _ _ | exact Hbl.out | refine Below.ext ?_ (by first | omega | (simp; omega) | simp) | refine Below.setCell ?_ (by first | omega | (simp; omega) | simp) _ | refine Below.alloc ?_ (by first | omega | (simp; omega) | simp) _ | refine Below.drew ?_ | refine below_drewN ?_ _ | refine Below.step (by assumption) (by first | omega | (simp; omega) | simp) ?_)))⟩
  · have g1' : ¬ cl < 0 := by have : 0 ≤ cl := by simpa using g1
                              omega
    go_enter Tryz.func115, Tryz.ntmps115
    go_wp2_with (first | (go_at_call 70; refine (l1In_any _ _ _ _).mono ?_; rintro e w' ⟨rfl, rfl⟩) | (go_at_call 131; refine (HC.out _).mono ?_; rintro e w' ⟨rfl, hb⟩; obtain ⟨d1, os1, rfl⟩ := ext_of_below hb; clear hb))
    all_goals
      go_ret
      exact ⟨by simp [*], (by (repeat (first | exact Below.refl _ _ | exact Hbl.out | refine Below.ext ?_ (by first | omega | (simp; omega) | simp) | refine Below.setCell ?_ (by first | omega | (simp; omega) | simp) _ | refine Below.alloc ?_ (by first | omega | (simp; omega) | simp) _ | refine Below.drew ?_ | refine below_drewN ?_ _ | refine Below.step (by assumption) (by first | omega | (simp; omega) | simp) ?_)))⟩
  · have g0 : 0 ≤ cl := by simpa using g1
    have g1' : ¬ cl < 0 := by omega
    have hcl := h012 g0
    have R0 := fun w => rightsS_in mode 0 w g2 (.inl rfl)
    have R1 := fun w => rightsS_in mode 1 w g2 (.inr (.inl rfl))
    have R2 := fun w => rightsS_in mode 2 w g2 (.inr (.inr rfl))
    have RC := fun w => rightsS_in mode cl w g2 hcl
    have K0 := Lib.hid R0
    have K1 := Lib.hid R1
    have K2 := Lib.hid R2
    have KC := Lib.hid RC
    clear R0 R1 R2 RC hcl h012
    by_cases hb0 : b = 0
    · rw [if_pos hb0]
      subst hb0
      cases hw : (want.tmod 2 == 0)
      all_goals
        go_enter Tryz.func115, Tryz.ntmps115
        go_wp2_with (first | (go_at_call 70; refine (l1In_any _ _ _ _).mono ?_; rintro e w' ⟨rfl, rfl⟩) | (go_at_call 131; refine (HC.out _).mono ?_; rintro e w' ⟨rfl, hb⟩; obtain ⟨d1, os1, rfl⟩ := ext_of_below hb; clear hb) | (go_at_call 132; refine (rightsS_in mode _ _ g2 ?_).mono ?_; (focus (first | exact .inl rfl | exact .inr (.inl rfl) | exact .inr (.inr rfl))); rintro e w' ⟨rfl, rfl⟩))
        all_goals
          go_ret
          exact ⟨by simp [someF, Act.tmps, g1, g2, g3, hw], (by (repeat (first | exact Below.refl _ _ | exact Hbl.out | refine Below.ext ?_ (by first | omega | (simp; omega) | simp) | refine Below.setCell ?_ (by first | omega | (simp; omega) | simp) _ | refine Below.alloc ?_ (by first | omega | (simp; omega) | simp) _ | refine Below.drew ?_ | refine below_drewN ?_ _ | refine Below.step (by assumption) (by first | omega | (simp; omega) | simp) ?_)))⟩
    · rw [if_neg hb0]
      go_enter Tryz.func115, Tryz.ntmps115
      go_wp2_with (first | (go_at_call 70; refine (l1In_any _ _ _ _).mono ?_; rintro e w' ⟨rfl, rfl⟩) | (go_at_call 131; refine (HC.out _).mono ?_; rintro e w' ⟨rfl, hb⟩; obtain ⟨d1, os1, rfl⟩ := ext_of_below hb; clear hb) | (go_at_call 132; refine (KC.out _).mono ?_; rintro e w' ⟨rfl, rfl⟩))
      go_ret
      exact ⟨by simp [*], (by (repeat (first | exact Below.refl _ _ | exact Hbl.out | refine Below.ext ?_ (by first | omega | (simp; omega) | simp) | refine Below.setCell ?_ (by first | omega | (simp; omega) | simp) _ | refine Below.alloc ?_ (by first | omega | (simp; omega) | simp) _ | refine Below.drew ?_ | refine below_drewN ?_ _ | refine Below.step (by assumption) (by first | omega | (simp; omega) | simp) ?_)))⟩
set_option maxHeartbeats 1000000 in
theorem l7May_any (a b c d want : Int) (x : Nd) (nA : Option Addr) (nL nC : Nat) (kA : Option Addr) (kL kC : Nat) (w : World) : Calls Tryz.prog 92 #[.agg #[.int .i64 a, .int .i64 b, .int .i64 c, .int .i64 d], .agg #[.bool x.fo, .int .i64 x.ow, .int .i64 x.gr, .int .i64 x.mo, .string x.tx, .slice nA nL nC, .slice kA kL kC], .int .i64 want] w fun e w' => e = .returned (.bool (mayF a b c d x.ow x.gr x.mo want)) ∧ Below w.heap.size w w' := by
  go_enter Tryz.func92, Tryz.ntmps92
  go_wp2_with (go_at_call 115; refine (mayS_any _ _ _ _ _ _ _ _ _).mono ?_; rintro e w' ⟨rfl, hb⟩; obtain ⟨d1, os1, rfl⟩ := ext_of_below hb; clear hb)
  go_ret
  exact ⟨rfl, (by (repeat (first | exact Below.refl _ _ | exact Hbl.out | refine Below.ext ?_ (by first | omega | (simp; omega) | simp) | refine Below.setCell ?_ (by first | omega | (simp; omega) | simp) _ | refine Below.alloc ?_ (by first | omega | (simp; omega) | simp) _ | refine Below.drew ?_ | refine below_drewN ?_ _ | refine Below.step (by assumption) (by first | omega | (simp; omega) | simp) ?_)))⟩
end Go.Proofs.YtkennmpbmbacpaaGreatDoor
