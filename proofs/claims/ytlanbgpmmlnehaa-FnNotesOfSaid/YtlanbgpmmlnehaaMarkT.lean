/- 'markText' of the exact laws. -/
import Derived.Test.YtlanbgpmmlnehaaNote
import Derived.Laws.IdiomStrings
set_option linter.unusedSimpArgs false
set_option linter.unusedVariables false
set_option linter.unusedSectionVars false
namespace Go.Proofs.Ytlanbgpmmlnehaa
open Go.RowKit

def mkB (l : List UInt8) : ByteArray := ⟨l.toArray⟩
theorem mkB_toList (l : List UInt8) : (mkB l).toList = l := by rw [ByteArray.toList_eq]; unfold mkB; simp
theorem mkB_size (l : List UInt8) : (mkB l).size = l.length := List.size_toArray
def decF : Nat → Nat → List UInt8 → List UInt8
  | 0, _, out => out
  | f + 1, k, out => if k = 0 then out else decF f (k / 10) (UInt8.ofNat (48 + k % 10) :: out)
def markTx (k : Nat) : ByteArray := mkB (109 :: decF 25 k [])
set_option maxHeartbeats 1000000 in
theorem markText_of (k : Nat) (w : World) (h0 : 0 < k) (h : k ≤ 1000000000) : Calls Try.prog 63 #[.int .i64 k] w fun e w' => e = .returned (.string (markTx k)) ∧ Below w.heap.size w w' := by
  have h0' : ¬ (k : Int) ≤ 0 := by omega
  go_enter Try.func63, Try.ntmps63
  go_wp2
  go_loopw [0, 3] (fun i o wr => ∃ (n f : Nat) (out : List UInt8), i = .int .i64 n ∧ o = .string (mkB out) ∧ decF f n out = decF 25 k [] ∧ n < 10 ^ f ∧ n ≤ 1000000000 ∧ out.length + f ≤ 25 ∧ Below w.heap.size w wr) (fun i _ _ => (intOf i).toNat)
  case atStart => exact ⟨k, 25, [], rfl, rfl, rfl, by omega, h, by simp, Below.refl _ _⟩
  case round =>
    obtain ⟨n, f, out, rfl, rfl, hd, hn, hn9, hf, hbl⟩ := hrel
    have Hd := Lib.hid hd
    have Hf := Lib.hid hf
    have Hn := Lib.hid hn
    have Hbl := Lib.hid hbl
    have hsz := mkB_size out
    have hs1 : ¬ (9223372036854775807 : Int) < 1 + ((mkB out).size : Int) := by omega
    have hs2 : ¬ 9223372036854775807 < 1 + (mkB out).size := by omega
    clear hd hf hn hbl hsz
    by_cases hz : 0 < n
    · have z1 : IntKind.i64.wrap ((n : Int).tmod 10) = ((n % 10 : Nat) : Int) := by rw [show ((n : Int).tmod 10) = ((n % 10 : Nat) : Int) from rfl]; exact IntWalk.i64_in _ (by omega)
      have z2 : IntKind.i64.wrap (48 + ((n % 10 : Nat) : Int)) = ((48 + n % 10 : Nat) : Int) := by rw [IntWalk.i64_in _ (by omega)]; omega
      have z3 : IntKind.i64.wrap ((n : Int).tdiv 10) = ((n / 10 : Nat) : Int) := by rw [show ((n : Int).tdiv 10) = ((n / 10 : Nat) : Int) from rfl]; exact IntWalk.i64_in _ (by omega)
      have hz' : (0 : Int) < (n : Int) := by omega
      obtain ⟨c, hc⟩ : ∃ c, c = UInt8.ofNat (48 + n % 10) := ⟨_, rfl⟩
      have hcn : (c.toNat : Int) = 48 + (n : Int) % 10 := by
        rw [hc]; simp; omega
      have hcv : (convert 22 9 (.slice (some ⟨wr.heap.size, 0, none⟩) 1 1)).run Try.prog (wr.alloc (.cells #[.int .u8 (48 + (n : Int) % 10)] 5)) = .ok (.string ⟨#[c]⟩) (wr.alloc (.cells #[.int .u8 (48 + (n : Int) % 10)] 5)) :=
        run_convert_bytes_back _ 22 9 5 ⟨wr.heap.size, 0, none⟩ 1 [c] rfl rfl rfl (fun j hj => by
          have : j = 0 := by simp at hj; exact hj
          subst this
          rw [Addr.add_lit, ← hcn]
          go_simp)
      have Hc := Lib.hid hc
      clear hc hcn
      have hf1 : ∃ f', f = f' + 1 := by
        cases f with
        | zero => have := Hn.out; simp at this; omega
        | succ f' => exact ⟨f', rfl⟩
      obtain ⟨f', hf'⟩ := hf1
      have Hf' := Lib.hid hf'
      clear hf'
      go_wp2
      refine ⟨⟨n / 10, f', c :: out, by congr 1, rfl, ?_, ?_, by omega, ?_, Below.alloc Hbl.out Hbl.out.size _⟩, by simp [intOf]; omega⟩
      · have := Hd.out
        rw [Hf'.out] at this
        rw [← this, Hc.out]
        show _ = (if n = 0 then out else decF f' (n / 10) (UInt8.ofNat (48 + n % 10) :: out))
        rw [if_neg (by omega)]
      · have := Hn.out
        rw [Hf'.out, Nat.pow_succ] at this
        omega
      · have := Hf.out
        rw [Hf'.out] at this
        simp; omega
    · have hz' : ¬ (0 : Int) < (n : Int) := by omega
      go_wp2
      go_ret
      refine ⟨?_, Hbl.out⟩
      have hd := Hd.out
      obtain rfl : n = 0 := by omega
      have : decF f 0 out = out := by cases f <;> rfl
      rw [this] at hd
      unfold markTx
      rw [← hd]
      rfl
end Go.Proofs.Ytlanbgpmmlnehaa
