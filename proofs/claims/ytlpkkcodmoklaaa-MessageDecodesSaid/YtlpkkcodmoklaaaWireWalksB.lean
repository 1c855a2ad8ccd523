/- The walks of the encodings of numbers with a sign. -/
import Derived.Test.YtlpkkcodmoklaaaWireWalksA
namespace Go.Proofs.Ytlpkkcodmoklaaa
open Go.RowKit
attribute [local go_sem] bs_size bs_get bs_append bs_extract bs_toList
theorem not_u64 (x : Nat) (h : x < 18446744073709551616) : bits .xor .u64 IntKind.u64.max (x : Int) = ((18446744073709551615 - x : Nat) : Int) := by
  show IntKind.u64.wrap ((BitVec.ofInt 64 18446744073709551615 ^^^ BitVec.ofInt 64 (x : Int)).toNat : Int) = _
  have h1 : BitVec.ofInt 64 18446744073709551615 = BitVec.allOnes 64 := by decide
  rw [h1, BitVec.allOnes_xor, BitVec.toNat_not, ofInt_u64 x h, IntKind.wrap_u64]
  omega
theorem neg_zig (n : Int) (h1 : -9223372036854775808 ≤ n) (h0 : ¬ 0 ≤ n) : bits .xor .u64 IntKind.u64.max (IntKind.u64.wrap (IntKind.u64.wrap n * 2)) = ((Wire.zig n : Nat) : Int) := by
  have hz : Wire.zig n = 2 * (-(n + 1)).toNat + 1 := by unfold Wire.zig; rw [if_neg h0]
  have e : IntKind.u64.wrap (IntKind.u64.wrap n * 2) = ((2 * n + 18446744073709551616).toNat : Int) := by
    rw [IntKind.wrap_u64, IntKind.wrap_u64]
    omega
  rw [e, not_u64 _ (by omega), hz]
  omega
theorem pos_zig (n : Int) (h0 : 0 ≤ n) : n * 2 = ((Wire.zig n : Nat) : Int) := by
  unfold Wire.zig
  rw [if_pos h0]
  omega
theorem int_any (n : Int) (w : World) (h1 : -9223372036854775808 ≤ n) (h2 : n ≤ 9223372036854775807) :
    Calls Try.prog 41 #[.int .i64 n] w fun e w' => e = .returned (.string (bs (Wire.encI n))) ∧ Below w.heap.size w w' := by
  have hz := Wire.zig_lt n ⟨h1, h2⟩
  by_cases h0 : 0 ≤ n
  · go_enter Try.func41, Try.ntmps41
    go_wp2_with fail
    rw [pos_zig n h0]
    refine (uint_any _ _ hz).mono ?_
    rintro e w1 ⟨rfl, hb⟩
    go_wp2_with fail
    go_ret
    exact ⟨rfl, hb⟩
  · go_enter Try.func41, Try.ntmps41
    go_wp2_with fail
    rw [neg_zig n h1 (by omega)]
    refine (uint_any _ _ hz).mono ?_
    rintro e w1 ⟨rfl, hb⟩
    go_wp2_with fail
    go_ret
    exact ⟨rfl, hb⟩
theorem zigzag_any (n : Int) (w : World) (h1 : -9223372036854775808 ≤ n) (h2 : n ≤ 9223372036854775807) :
    Calls Try.prog 71 #[.int .i64 n] w fun e w' => e = .returned (.int .u64 (Wire.zig n : Nat)) ∧ w = w' := by
  by_cases h0 : 0 ≤ n
  · go_enter Try.func71, Try.ntmps71
    go_wp2_with fail
    go_ret
    exact ⟨ret_int (by show 2 * n = _; rw [← pos_zig n h0]; omega), rfl⟩
  · have hz : Wire.zig n = 2 * (-(n + 1)).toNat + 1 := by unfold Wire.zig; rw [if_neg h0]
    have HZ := Lib.hid hz
    clear hz
    go_enter Try.func71, Try.ntmps71
    go_wp2_with fail
    go_ret
    exact ⟨ret_int (by show 2 * -(n + 1) + 1 = _; rw [HZ.out]; omega), rfl⟩
theorem refInt_any (n : Int) (w : World) (h1 : -9223372036854775808 ≤ n) (h2 : n ≤ 9223372036854775807) :
    Calls Try.prog 51 #[.int .i64 n] w fun e w' => e = .returned (.string (bs (Wire.encI n))) ∧ Below w.heap.size w w' := by
  have hz := Wire.zig_lt n ⟨h1, h2⟩
  go_enter Try.func51, Try.ntmps51
  go_wp2_with fail
  refine (zigzag_any n _ h1 h2).mono ?_
  rintro e w1 ⟨rfl, rfl⟩
  go_wp2_with fail
  refine (refUint_any _ _ hz).mono ?_
  rintro e w1 ⟨rfl, hb⟩
  go_wp2_with fail
  go_ret
  exact ⟨rfl, hb⟩
end Go.Proofs.Ytlpkkcodmoklaaa
