/- The walks of the laws WireLengths, WireTakes and WireLists. -/
import Derived.Test.YtlpkkcodmoklaaaWireAlive
import Derived.Test.YtlpkkcodmoklaaaWirePlainC
namespace Go.Proofs.Ytlpkkcodmoklaaa
open Go.RowKit
attribute [local go_sem] bs_size bs_get bs_append bs_extract bs_toList
theorem wireLengths_lt (a b : Nat) (w : World) (ha : a < 18446744073709551616) (hb : b < 18446744073709551616) (hab : a < b) :
    Calls Try.prog 9 #[.int .u64 a, .int .u64 b] w fun e w' => e = .returned (.bool true) ∧ Below w.heap.size w w' := by
  have h1 := Wire.enc_length a ha
  have h2 := Wire.enc_length b hb
  have h3 : (Wire.enc a).length ≤ (Wire.enc b).length := Wire.enc_mono 9 a b (by omega)
  go_enter Try.func9, Try.ntmps9
  go_wp2_with fail
  refine (uint_any a _ ha).mono ?_
  rintro e w1 ⟨rfl, hb1⟩
  go_wp2_with fail
  refine (uint_any b _ hb).mono ?_
  rintro e w2 ⟨rfl, hb2⟩
  go_wp2_with fail
  refine (alive03 _).mono ?_
  rintro e w3 ⟨rfl, hb3⟩
  go_wp2_with fail
  go_ret
  exact ⟨rfl, bthen (bthen hb1 hb2) hb3⟩
theorem wireLengths_gt (a b : Nat) (w : World) (ha : a < 18446744073709551616) (hb : b < 18446744073709551616) (hab : b < a) :
    Calls Try.prog 9 #[.int .u64 a, .int .u64 b] w fun e w' => e = .returned (.bool true) ∧ Below w.heap.size w w' := by
  have h1 := Wire.enc_length b hb
  have h2 := Wire.enc_length a ha
  have h3 : (Wire.enc b).length ≤ (Wire.enc a).length := Wire.enc_mono 9 b a (by omega)
  go_enter Try.func9, Try.ntmps9
  go_wp2_with fail
  refine (uint_any b _ hb).mono ?_
  rintro e w1 ⟨rfl, hb1⟩
  go_wp2_with fail
  refine (uint_any a _ ha).mono ?_
  rintro e w2 ⟨rfl, hb2⟩
  go_wp2_with fail
  refine (alive03 _).mono ?_
  rintro e w3 ⟨rfl, hb3⟩
  go_wp2_with fail
  go_ret
  exact ⟨rfl, bthen (bthen hb1 hb2) hb3⟩
theorem wireLengths_eq (a : Nat) (w : World) (ha : a < 18446744073709551616) :
    Calls Try.prog 9 #[.int .u64 a, .int .u64 a] w fun e w' => e = .returned (.bool true) ∧ Below w.heap.size w w' := by
  have h1 := Wire.enc_length a ha
  have h2 := Wire.enc_length a ha
  have h3 : (Wire.enc a).length ≤ (Wire.enc a).length := Wire.enc_mono 9 a a (by omega)
  go_enter Try.func9, Try.ntmps9
  go_wp2_with fail
  refine (uint_any a _ ha).mono ?_
  rintro e w1 ⟨rfl, hb1⟩
  go_wp2_with fail
  refine (uint_any a _ ha).mono ?_
  rintro e w2 ⟨rfl, hb2⟩
  go_wp2_with fail
  refine (alive03 _).mono ?_
  rintro e w3 ⟨rfl, hb3⟩
  go_wp2_with fail
  go_ret
  exact ⟨rfl, bthen (bthen hb1 hb2) hb3⟩
theorem wireLengths_any (a b : Nat) (w : World) (ha : a < 18446744073709551616) (hb : b < 18446744073709551616) :
    Calls Try.prog 9 #[.int .u64 a, .int .u64 b] w fun e w' => e = .returned (.bool true) ∧ Below w.heap.size w w' := by
  rcases Nat.lt_trichotomy a b with h | h | h
  · exact wireLengths_lt a b w ha hb h
  · subst h
    exact wireLengths_eq a w ha
  · exact wireLengths_gt a b w ha hb h
set_option maxRecDepth 100000 in
theorem wireTakes_any (l : List UInt8) (at' : Int) (w : World) (hs : l.length ≤ 140737488351232) (h1 : -9223372036854775808 ≤ at') (h2 : at' ≤ 9223372036854775807) :
    Calls Try.prog 11 #[.string (bs l), .int .i64 at'] w fun e w' => e = .returned (.bool true) ∧ Below w.heap.size w w' := by
  go_enter Try.func11, Try.ntmps11
  go_wp2_with fail
  refine (takeUint_any l at' _ hs h1 h2).mono ?_
  rintro e w1 ⟨rfl, hb1⟩
  go_wp2_with fail
  refine (refTakeUintB_any l at' _ hs h1 h2).mono ?_
  generalize Wire.takeU l at' = r1
  rintro e w2 ⟨rfl, hb2⟩
  go_wp2_with fail
  refine (takeInt_any l at' _ hs h1 h2).mono ?_
  rintro e w3 ⟨rfl, hb3⟩
  go_wp2_with fail
  refine (refTakeInt_any l at' _ hs h1 h2).mono ?_
  generalize Wire.takeI l at' = r2
  rintro e w4 ⟨rfl, hb4⟩
  go_wp2_with fail
  refine (takeBool_any l at' _ hs).mono ?_
  rintro e w5 ⟨rfl, rfl⟩
  go_wp2_with fail
  refine (refTakeBool_any l at' _ hs).mono ?_
  generalize Wire.takeB l at' = r3
  rintro e w5 ⟨rfl, rfl⟩
  go_wp2_with fail
  refine (alive03 _).mono ?_
  rintro e w6 ⟨rfl, hb6⟩
  go_wp2_with fail
  go_ret
  exact ⟨rfl, bthen (bthen (bthen (bthen hb1 hb2) hb3) hb4) hb6⟩
set_option maxRecDepth 100000 in
theorem wireLists_any (l : List UInt8) (at' most : Int) (w : World) (hs : l.length ≤ maxLen) (h1 : -9223372036854775808 ≤ at') (h2 : at' ≤ 9223372036854775807) (h3 : -9223372036854775808 ≤ most) (h4 : most ≤ 9223372036854775807) :
    Calls Try.prog 8 #[.string (bs l), .int .i64 at', .int .i64 most] w fun e w' => e = .returned (.bool true) ∧ Below w.heap.size w w' := by
  unfold maxLen at hs
  by_cases hl : 2000 < l.length
  · go_enter Try.func8, Try.ntmps8
    go_wp2_with fail
    refine (alive03 _).mono ?_
    rintro e w1 ⟨rfl, hb1⟩
    go_wp2_with fail
    go_ret
    exact ⟨rfl, hb1⟩
  · go_enter Try.func8, Try.ntmps8
    go_wp2_with fail
    refine (takeText_any l at' most _ (by omega) h1 h2 h3 h4).mono ?_
    rintro e w1 ⟨rfl, hb1⟩
    go_wp2_with fail
    refine (refTakeText_any l at' most _ (by omega) h1 h2 h3 h4).mono ?_
    generalize Wire.takeT l at' most = r1
    rintro e w2 ⟨rfl, hb2⟩
    go_wp2_with fail
    refine (takeCount_any l at' most _ (by omega) h1 h2 h3 h4).mono ?_
    rintro e w3 ⟨rfl, hb3⟩
    go_wp2_with fail
    refine (refTakeCount_any l at' most _ (by omega) h1 h2 h3 h4).mono ?_
    generalize Wire.takeC l at' most = r2
    rintro e w4 ⟨rfl, hb4⟩
    have hll := Wire.takeL_len l at' most
    have hll' : (Wire.takeL l at' most).1.length ≤ 9223372036854775807 := by omega
    go_wp2_with fail
    refine (takeInts_any l at' most _ (by omega) h1 h2 h3 h4).mono ?_
    rintro e w5 ⟨v, rfl, hr5, hb5⟩
    go_wp2_with fail
    refine (refTakeInts_any l at' most _ (by omega) h1 h2 h3 h4).mono ?_
    clear hll
    generalize Wire.takeL l at' most = r3 at hr5 hll'
    rintro e w6 ⟨u, rfl, hr6, hb6⟩
    go_wp2_with fail
    refine (same_any r3.1 r3.1 _ _ _ hll' hll' (hr5.at_now hb6 (Nat.le_refl _)) hr6).mono ?_
    rw [sameB_self]
    rintro e w7 ⟨rfl, hb7⟩
    go_wp2_with fail
    refine (alive03 _).mono ?_
    rintro e w8 ⟨rfl, hb8⟩
    go_wp2_with fail
    go_ret
    exact ⟨rfl, bthen (bthen (bthen (bthen (bthen (bthen (bthen hb1 hb2) hb3) hb4) hb5) hb6) hb7) hb8⟩
end Go.Proofs.Ytlpkkcodmoklaaa
