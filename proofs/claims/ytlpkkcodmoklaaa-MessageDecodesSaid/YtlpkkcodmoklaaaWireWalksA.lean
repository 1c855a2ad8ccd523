/- The walks of the encodings of numbers, Bools and texts, of the program and of the reference. -/
import Derived.Test.YtlpkkcodmoklaaaRows
import Derived.Test.YtlpkkcodmoklaaaWirePlain
import Derived.Test.YtlpkkcodmoklaaaOwnStep
namespace Go.Proofs.Ytlpkkcodmoklaaa
open Go.RowKit
attribute [local go_sem] bs_size bs_get bs_append bs_extract bs_toList
theorem info5c : (Try.prog.info? 5).map (fun i => (i.zero, i.size, i.bytes)) = some (some (.int .u8 0), 1, 1) := by kernel_rfl
theorem or128 (q : Nat) : bits .or .u8 128 ((q : Int) % 128 ) = (128 + (q : Int) % 128) := by
  have h : bits .or .u8 ((128 : Nat) : Int) ((q % 128 : Nat) : Int) = ((128 ||| (q % 128) : Nat) : Int) := u8_or_nat 128 (q % 128) (by omega) (by omega)
  rw [nat_join 7 128 (q % 128) (by decide) (by omega)] at h
  simpa using h
set_option maxRecDepth 100000 in
theorem uint_any (n : Nat) (w : World) (hn : n < 18446744073709551616) :
    Calls Try.prog 39 #[.int .u64 n] w fun e w' => e = .returned (.string (bs (Wire.enc n))) ∧ Below w.heap.size w w' := by
  obtain ⟨i0, hi, hz0, hz1, hz2⟩ := info_parts info5c
  go_enter Try.func39, Try.ntmps39
  go_wp2_with fail
  go_loopw [0, 3] (fun m v wr => ∃ (j q : Nat) (p : List UInt8), j ≤ 9 ∧ p.length ≤ j ∧ q < Wire.cap (9 - j) ∧ q < 18446744073709551616 ∧ Wire.enc n = p ++ Wire.encF (9 - j) q ∧ m = .int .u64 (q : Nat) ∧ OwnB wr w.heap.size 5 v p ∧ Below w.heap.size w wr) (fun m _ _ => (intOf m).toNat)
  case atStart => exact ⟨0, n, [], by omega, by simp, by rw [Wire.cap9]; exact hn, hn, rfl, rfl, OwnB.nil _ _ _, Below.refl _ _⟩
  case round =>
    obtain ⟨j, q, p, hj, hp, hq, hq64, henc, rfl, hown, hbr⟩ := hrel
    by_cases hlt : q < 128
    · rw [Wire.encF_small _ _ hlt] at henc
      have HE := Lib.hid henc
      clear henc hq
      go_wp2_with (at_builtin; refine wpList_append_u8 _ rfl (.tmp 15) (.tmp 18) 30 rfl w.heap.size 5 i0 Try.underlying30 hi hz0 hz1 hz2 _ p rfl hown (UInt8.ofNat q) _ (by rw [u8_of]; omega) _ rfl (by omega) hbr.size ?_; intro v' w' hown' hkeep; have hcv := conv_own (P := Try.prog) w' Try.underlying30 Try.underlying5 Try.underlying9 hown')
      go_ret
      exact ⟨ret_v (by rw [HE.out]; rfl), hkeep _ _ (Nat.le_refl _) hbr⟩
    · have hj9 : j < 9 := by
        rcases Nat.lt_or_ge j 9 with h | h
        · exact h
        · rw [show 9 - j = 0 by omega, Wire.cap0] at hq
          omega
      obtain ⟨k, hk⟩ : ∃ k, 9 - j = k + 1 := ⟨8 - j, by omega⟩
      have hk' : 9 - (j + 1) = k := by omega
      rw [hk, Wire.cap_succ] at hq
      rw [hk, Wire.encF_big _ _ hlt] at henc
      have hqk : q / 128 < Wire.cap k := by omega
      have HE := Lib.hid henc
      have HK := Lib.hid hk'
      clear henc hk hk' hq
      have ha : bits .and .u64 (q : Int) 127 = (q : Int) % 128 := by
        have := u64_and_nat q 127 hq64 (by omega)
        rw [nat_mask7] at this
        simpa using this
      have ho := or128 q
      go_wp2_with (at_builtin; refine wpList_append_u8 _ rfl (.tmp 6) (.tmp 11) 30 rfl w.heap.size 5 i0 Try.underlying30 hi hz0 hz1 hz2 _ p rfl hown (UInt8.ofNat (128 + q % 128)) _ (by rw [u8_of]; omega) _ rfl (by omega) hbr.size ?_; intro v' w' hown' hkeep)
      go_roundw
      case rel => exact ⟨j + 1, q / 128, p ++ [UInt8.ofNat (128 + q % 128)], by omega, by simp; omega, by rw [HK.out]; exact hqk, by omega, by rw [HE.out, HK.out]; simp, by simp, hown', hkeep _ _ (Nat.le_refl _) hbr⟩
      case measure => simp [intOf] <;> omega
set_option maxRecDepth 100000 in
theorem refUint_any (n : Nat) (w : World) (hn : n < 18446744073709551616) :
    Calls Try.prog 50 #[.int .u64 n] w fun e w' => e = .returned (.string (bs (Wire.enc n))) ∧ Below w.heap.size w w' := by
  obtain ⟨i0, hi, hz0, hz1, hz2⟩ := info_parts info5c
  go_enter Try.func50, Try.ntmps50
  go_wp2_with fail
  go_loopw [0, 3] (fun m v wr => ∃ (j q : Nat) (p : List UInt8), j ≤ 9 ∧ p.length ≤ j ∧ q < Wire.cap (9 - j) ∧ q < 18446744073709551616 ∧ Wire.enc n = p ++ Wire.encF (9 - j) q ∧ m = .int .u64 (q : Nat) ∧ OwnB wr w.heap.size 5 v p ∧ Below w.heap.size w wr) (fun m _ _ => (intOf m).toNat)
  case atStart => exact ⟨0, n, [], by omega, by simp, by rw [Wire.cap9]; exact hn, hn, rfl, rfl, OwnB.nil _ _ _, Below.refl _ _⟩
  case round =>
    obtain ⟨j, q, p, hj, hp, hq, hq64, henc, rfl, hown, hbr⟩ := hrel
    by_cases hlt : q < 128
    · rw [Wire.encF_small _ _ hlt] at henc
      have HE := Lib.hid henc
      clear henc hq
      go_wp2_with (at_builtin; refine wpList_append_u8 _ rfl (.tmp 15) (.tmp 18) 30 rfl w.heap.size 5 i0 Try.underlying30 hi hz0 hz1 hz2 _ p rfl hown (UInt8.ofNat q) _ (by rw [u8_of]; omega) _ rfl (by omega) hbr.size ?_; intro v' w' hown' hkeep; have hcv := conv_own (P := Try.prog) w' Try.underlying30 Try.underlying5 Try.underlying9 hown')
      go_ret
      exact ⟨ret_v (by rw [HE.out]; rfl), hkeep _ _ (Nat.le_refl _) hbr⟩
    · have hj9 : j < 9 := by
        rcases Nat.lt_or_ge j 9 with h | h
        · exact h
        · rw [show 9 - j = 0 by omega, Wire.cap0] at hq
          omega
      obtain ⟨k, hk⟩ : ∃ k, 9 - j = k + 1 := ⟨8 - j, by omega⟩
      have hk' : 9 - (j + 1) = k := by omega
      rw [hk, Wire.cap_succ] at hq
      rw [hk, Wire.encF_big _ _ hlt] at henc
      have hqk : q / 128 < Wire.cap k := by omega
      have HE := Lib.hid henc
      have HK := Lib.hid hk'
      clear henc hk hk' hq
      go_wp2_with (at_builtin; refine wpList_append_u8 _ rfl (.tmp 6) (.tmp 11) 30 rfl w.heap.size 5 i0 Try.underlying30 hi hz0 hz1 hz2 _ p rfl hown (UInt8.ofNat (128 + q % 128)) _ (by rw [u8_of]; omega) _ rfl (by omega) hbr.size ?_; intro v' w' hown' hkeep)
      go_roundw
      case rel => exact ⟨j + 1, q / 128, p ++ [UInt8.ofNat (128 + q % 128)], by omega, by simp; omega, by rw [HK.out]; exact hqk, by omega, by rw [HE.out, HK.out]; simp, by simp, hown', hkeep _ _ (Nat.le_refl _) hbr⟩
      case measure => simp [intOf] <;> omega
theorem bool_any (b : Bool) (w : World) : Calls Try.prog 52 #[.bool b] w fun e w' => e = .returned (.string (bs (Wire.encB b))) ∧ w = w' := by
  cases b
  · go_enter Try.func52, Try.ntmps52
    go_wp2_with fail
    go_ret
    exact ⟨rfl, rfl⟩
  · go_enter Try.func52, Try.ntmps52
    go_wp2_with fail
    go_ret
    exact ⟨rfl, rfl⟩
theorem refBool_any (b : Bool) (w : World) : Calls Try.prog 53 #[.bool b] w fun e w' => e = .returned (.string (bs (Wire.encB b))) ∧ w = w' := by
  cases b
  · go_enter Try.func53, Try.ntmps53
    go_wp2_with fail
    go_ret
    exact ⟨rfl, rfl⟩
  · go_enter Try.func53, Try.ntmps53
    go_wp2_with fail
    go_ret
    exact ⟨rfl, rfl⟩
theorem text_any (l : List UInt8) (w : World) (hs : l.length ≤ 1000000) : Calls Try.prog 42 #[.string (bs l)] w fun e w' => e = .returned (.string (bs (Wire.encT l))) ∧ Below w.heap.size w w' := by
  have hl := Wire.enc_length l.length (by omega)
  go_enter Try.func42, Try.ntmps42
  go_wp2_with fail
  refine (uint_any l.length _ (by omega)).mono ?_
  rintro e w1 ⟨rfl, hb⟩
  go_wp2_with fail
  go_ret
  exact ⟨rfl, hb⟩
theorem refText_any (l : List UInt8) (w : World) (hs : l.length ≤ 1000000) : Calls Try.prog 54 #[.string (bs l)] w fun e w' => e = .returned (.string (bs (Wire.encT l))) ∧ Below w.heap.size w w' := by
  have hl := Wire.enc_length l.length (by omega)
  go_enter Try.func54, Try.ntmps54
  go_wp2_with fail
  refine (refUint_any l.length _ (by omega)).mono ?_
  rintro e w1 ⟨rfl, hb⟩
  go_wp2_with fail
  go_ret
  exact ⟨rfl, hb⟩
end Go.Proofs.Ytlpkkcodmoklaaa
