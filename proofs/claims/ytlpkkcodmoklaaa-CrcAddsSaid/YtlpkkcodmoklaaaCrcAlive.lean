/- The walk of the examples of chapter 4. -/
import Derived.Test.YtlpkkcodmoklaaaCrcWalksE
namespace Go.Proofs.Ytlpkkcodmoklaaa
open Go.RowKit
attribute [local go_sem] bs_size bs_get bs_append bs_extract bs_toList bs_nil
theorem ex_sum : Crc.sum [49, 50, 51, 52, 53, 54, 55, 56, 57] = 3421780262 := by decide +kernel
theorem ex_hex : Crc.hex 255 = [48, 48, 48, 48, 48, 48, 48, 48, 48, 48, 48, 48, 48, 48, 102, 102] := by decide +kernel
theorem ex_chain : Crc.chain 0 [97] ≠ Crc.chain 0 [98] := by decide +kernel
theorem openV_sealed (l : List UInt8) : openV (Crc.sealed l) = (bs l, 0) := by
  unfold openV
  rw [if_neg (by rw [Crc.sealed_length]; omega), if_pos (by rw [Crc.body_sealed]), Crc.body_sealed]
theorem alive04 (w : World) : Calls Try.prog 24 #[] w fun e w' => e = .returned (.bool true) ∧ Below w.heap.size w w' := by
  go_enter Try.func24, Try.ntmps24
  go_wp2_with fail
  refine (seal_any [97, 98] _ (by simp)).mono ?_
  rintro e w1 ⟨rfl, hb1⟩
  go_wp2_with fail
  refine (open_any (Crc.sealed [97, 98]) _ (by rw [Crc.sealed_length]; simp)).mono ?_
  rw [openV_sealed]
  rintro e w2 ⟨rfl, hb2⟩
  go_wp2_with fail
  refine (sum_any [49, 50, 51, 52, 53, 54, 55, 56, 57] _ (by unfold maxLen; simp)).mono ?_
  rw [ex_sum]
  rintro e w3 ⟨rfl, rfl⟩
  go_wp2_with fail
  refine (hex_any 255 _ (by omega)).mono ?_
  rw [ex_hex]
  rintro e w3 ⟨rfl, hb3⟩
  go_wp2_with fail
  have hc := ex_chain
  have h0 := Crc.chain_lt 0 [97]
  have h1 := Crc.chain_lt 0 [98]
  have c1 := fun W => chain_any 0 [97] W (by simp) (by omega)
  have c2 := fun W => chain_any 0 [98] W (by simp) (by omega)
  generalize Crc.chain 0 [97] = a at hc h0 c1
  generalize Crc.chain 0 [98] = b at hc h1 c2
  have hab : ((a : Int) != (b : Int)) = true := by rw [bne_iff_ne]; omega
  have C1 := Lib.hid c1
  have C2 := Lib.hid c2
  clear c1 c2 hc
  refine (C1.out _).mono ?_
  rintro e w4 ⟨rfl, hb4⟩
  go_wp2_with fail
  refine (C2.out _).mono ?_
  rintro e w5 ⟨rfl, hb5⟩
  go_wp2_with fail
  go_ret
  exact ⟨rfl, bthen (bthen (bthen (bthen hb1 hb2) hb3) hb4) hb5⟩
end Go.Proofs.Ytlpkkcodmoklaaa
