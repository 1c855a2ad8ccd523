/- The walks of the laws CrcSums, CrcChains and CrcOpens. -/
import Derived.Test.YtlpkkcodmoklaaaCrcAlive
namespace Go.Proofs.Ytlpkkcodmoklaaa
open Go.RowKit
attribute [local go_sem] bs_size bs_get bs_append bs_extract bs_toList bs_nil
theorem crcSums_any (l : List UInt8) (w : World) (hs : l.length ≤ maxLen) :
    Calls Try.prog 3 #[.string (bs l)] w fun e w' => e = .returned (.bool true) ∧ Below w.heap.size w w' := by
  unfold maxLen at hs
  by_cases h : 3000 < l.length
  · go_enter Try.func3, Try.ntmps3
    go_wp2_with fail
    refine (alive04 _).mono ?_
    rintro e w1 ⟨rfl, hb1⟩
    go_wp2_with fail
    go_ret
    exact ⟨rfl, hb1⟩
  · go_enter Try.func3, Try.ntmps3
    go_wp2_with fail
    refine (sum_any l _ (by unfold maxLen; omega)).mono ?_
    rintro e w1 ⟨rfl, rfl⟩
    go_wp2_with fail
    refine (refSum_any l _ (by unfold maxLen; omega)).mono ?_
    rintro e w1 ⟨rfl, rfl⟩
    go_wp2_with fail
    refine (seal_any l _ (by omega)).mono ?_
    rintro e w1 ⟨rfl, hb1⟩
    go_wp2_with fail
    refine (refSeal_any l _ (by omega)).mono ?_
    rintro e w2 ⟨rfl, hb2⟩
    go_wp2_with fail
    refine (alive04 _).mono ?_
    rintro e w3 ⟨rfl, hb3⟩
    go_wp2_with fail
    go_ret
    exact ⟨rfl, bthen (bthen hb1 hb2) hb3⟩
theorem crcChains_any (h : Nat) (l : List UInt8) (w : World) (hs : l.length ≤ maxLen) (hh : h < 18446744073709551616) :
    Calls Try.prog 7 #[.int .u64 h, .string (bs l)] w fun e w' => e = .returned (.bool true) ∧ Below w.heap.size w w' := by
  unfold maxLen at hs
  by_cases hl : 3000 < l.length
  · go_enter Try.func7, Try.ntmps7
    go_wp2_with fail
    refine (hex_any h _ hh).mono ?_
    rintro e w1 ⟨rfl, hb1⟩
    go_wp2_with fail
    refine (refHex_any h _ hh).mono ?_
    rintro e w2 ⟨rfl, rfl⟩
    go_wp2_with fail
    refine (alive04 _).mono ?_
    rintro e w3 ⟨rfl, hb3⟩
    go_wp2_with fail
    go_ret
    exact ⟨rfl, bthen hb1 hb3⟩
  · go_enter Try.func7, Try.ntmps7
    go_wp2_with fail
    refine (chain_any h l _ (by omega) hh).mono ?_
    rintro e w1 ⟨rfl, hb1⟩
    go_wp2_with fail
    refine (refChain_any h l _ (by omega) hh).mono ?_
    rintro e w2 ⟨rfl, hb2⟩
    go_wp2_with fail
    refine (hex_any h _ hh).mono ?_
    rintro e w3 ⟨rfl, hb3⟩
    go_wp2_with fail
    refine (refHex_any h _ hh).mono ?_
    rintro e w4 ⟨rfl, rfl⟩
    go_wp2_with fail
    refine (alive04 _).mono ?_
    rintro e w5 ⟨rfl, hb5⟩
    go_wp2_with fail
    go_ret
    exact ⟨rfl, bthen (bthen (bthen hb1 hb2) hb3) hb5⟩
theorem crcOpens_any (l : List UInt8) (w : World) (hs : l.length ≤ maxLen) :
    Calls Try.prog 4 #[.string (bs l)] w fun e w' => e = .returned (.bool true) ∧ Below w.heap.size w w' := by
  unfold maxLen at hs
  by_cases hl : 3000 < l.length
  · go_enter Try.func4, Try.ntmps4
    go_wp2_with fail
    refine (alive04 _).mono ?_
    rintro e w1 ⟨rfl, hb1⟩
    go_wp2_with fail
    go_ret
    exact ⟨rfl, hb1⟩
  · by_cases hq : 4 ≤ l.length ∧ l = Crc.sealed (Crc.body l)
    · have ho : openV l = (bs (Crc.body l), 0) := by unfold openV; rw [if_neg (by omega), if_pos hq.2]
      have hbl : (Crc.body l).length ≤ 3000 := by unfold Crc.body; rw [List.length_take]; omega
      have hse : Crc.sealed (Crc.body l) = l := hq.2.symm
      clear hq
      generalize hbd : Crc.body l = t at ho hbl hse
      clear hbd
      have HO := Lib.hid ho
      have HS := Lib.hid hse
      clear ho hse
      go_enter Try.func4, Try.ntmps4
      go_wp2_with fail
      refine (open_any l _ (by omega)).mono ?_
      rw [HO.out]
      rintro e w1 ⟨rfl, hb1⟩
      go_wp2_with fail
      refine (refOpen_any l _ (by omega)).mono ?_
      rw [HO.out]
      rintro e w2 ⟨rfl, hb2⟩
      go_wp2_with fail
      refine (seal_any l _ (by omega)).mono ?_
      rintro e w3 ⟨rfl, hb3⟩
      go_wp2_with fail
      refine (open_any (Crc.sealed l) _ (by rw [Crc.sealed_length]; omega)).mono ?_
      rw [openV_sealed]
      rintro e w4 ⟨rfl, hb4⟩
      go_wp2_with fail
      refine (seal_any t _ (by omega)).mono ?_
      rw [HS.out]
      rintro e w5 ⟨rfl, hb5⟩
      go_wp2_with fail
      refine (alive04 _).mono ?_
      rintro e w6 ⟨rfl, hb6⟩
      go_wp2_with fail
      go_ret
      exact ⟨rfl, bthen (bthen (bthen (bthen (bthen hb1 hb2) hb3) hb4) hb5) hb6⟩
    · obtain ⟨n, hn, ho⟩ : ∃ n : Int, n ≠ 0 ∧ openV l = (bs [], n) := by
        unfold openV
        by_cases h4 : l.length < 4
        · exact ⟨5, by omega, by rw [if_pos h4]⟩
        · exact ⟨6, by omega, by rw [if_neg h4, if_neg (fun h => hq ⟨by omega, h⟩)]⟩
      have hn0 : (n != 0) = true := by rw [bne_iff_ne]; exact hn
      have HO := Lib.hid ho
      clear ho hq hn
      go_enter Try.func4, Try.ntmps4
      go_wp2_with fail
      refine (open_any l _ (by omega)).mono ?_
      rw [HO.out]
      rintro e w1 ⟨rfl, hb1⟩
      go_wp2_with fail
      refine (refOpen_any l _ (by omega)).mono ?_
      rw [HO.out]
      rintro e w2 ⟨rfl, hb2⟩
      go_wp2_with fail
      refine (seal_any l _ (by omega)).mono ?_
      rintro e w3 ⟨rfl, hb3⟩
      go_wp2_with fail
      refine (open_any (Crc.sealed l) _ (by rw [Crc.sealed_length]; omega)).mono ?_
      rw [openV_sealed]
      rintro e w4 ⟨rfl, hb4⟩
      go_wp2_with fail
      refine (alive04 _).mono ?_
      rintro e w6 ⟨rfl, hb6⟩
      go_wp2_with fail
      go_ret
      exact ⟨rfl, bthen (bthen (bthen (bthen hb1 hb2) hb3) hb4) hb6⟩
end Go.Proofs.Ytlpkkcodmoklaaa
