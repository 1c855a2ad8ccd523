/- The walks of crc.Chain and the reference's Open. -/
import Derived.Test.YtlpkkcodmoklaaaCrcWalksC
import Derived.Test.YtlpkkcodmoklaaaCrcWalksB
namespace Go.Proofs.Ytlpkkcodmoklaaa
open Go.RowKit
attribute [local go_sem] bs_size bs_get bs_append bs_extract bs_toList bs_nil
theorem chain_any (h : Nat) (l : List UInt8) (w : World) (hs : l.length ≤ 100000) (hh : h < 18446744073709551616) :
    Calls Try.prog 27 #[.int .u64 h, .string (bs l)] w fun e w' => e = .returned (.int .u64 (Crc.chain h l : Nat)) ∧ Below w.heap.size w w' := by
  have hc := Crc.chain_eq h l
  have HC := Lib.hid hc
  clear hc
  have h1 := Crc.addAll_lt (Crc.le8 h) (r := 14695981039346656037) (by omega)
  have h2 := Crc.addAll_lt (Crc.le8 l.length) h1
  go_enter Try.func27, Try.ntmps27
  go_wp2_with fail
  refine (number_any h _ hh).mono ?_
  rintro e w1 ⟨rfl, hb1⟩
  go_wp2_with fail
  refine (add_any 14695981039346656037 _ _ (by rw [Crc.le8_length]; unfold maxLen; omega) (by omega)).mono ?_
  rintro e w2 ⟨rfl, rfl⟩
  generalize Crc.addAll 14695981039346656037 (Crc.le8 h) = a at h1 h2 HC ⊢
  go_wp2_with fail
  refine (number_any l.length _ (by omega)).mono ?_
  rintro e w2 ⟨rfl, hb2⟩
  go_wp2_with fail
  refine (add_any a _ _ (by rw [Crc.le8_length]; unfold maxLen; omega) h1).mono ?_
  rintro e w3 ⟨rfl, rfl⟩
  generalize Crc.addAll a (Crc.le8 l.length) = b at h2 HC ⊢
  go_wp2_with fail
  refine (add_any b l _ (by unfold maxLen; omega) h2).mono ?_
  rintro e w3 ⟨rfl, rfl⟩
  go_wp2_with fail
  go_ret
  exact ⟨ret_int (by rw [HC.out]), hb1.trans (hb2.mono hb1.size)⟩
theorem refOpen_any (l : List UInt8) (w : World) (hs : l.length ≤ 100000) :
    Calls Try.prog 26 #[.string (bs l)] w fun e w' => e = .returned (.tuple #[.string (openV l).1, .int .i64 (openV l).2]) ∧ Below w.heap.size w w' := by
  by_cases h4 : l.length < 4
  · go_enter Try.func26, Try.ntmps26
    go_wp2_with fail
    go_ret2
    exact ⟨by rw [openV, if_pos h4]; rfl, Below.refl _ _⟩
  · have hfin : openV l = if Crc.sealed (l.take (l.length - 4)) = l then (bs (l.take (l.length - 4)), 0) else (bs [], 6) := by
      unfold openV Crc.body
      rw [if_neg h4]
      by_cases h : Crc.sealed (l.take (l.length - 4)) = l
      · rw [if_pos h, if_pos h.symm]
      · rw [if_neg h, if_neg (fun h' => h h'.symm)]
    have HF := Lib.hid hfin
    clear hfin
    have hlen : (l.take (l.length - 4)).length ≤ 100000 := by simp; omega
    go_enter Try.func26, Try.ntmps26
    go_wp2_with fail
    generalize hbd : l.take (l.length - 4) = t at hlen HF
    refine (refSeal_any t _ hlen).mono ?_
    rintro e w1 ⟨rfl, hb⟩
    by_cases hq : Crc.sealed t = l
    · have hq' : (Crc.sealed t == l) = true := by simp [hq]
      have HQ := Lib.hid hq
      clear hq
      go_wp2_with fail
      go_ret2
      exact ⟨by rw [HF.out, if_pos HQ.out]; rfl, hb⟩
    · have hq' : (Crc.sealed t == l) = false := by simp [hq]
      have HQ := Lib.hid hq
      clear hq
      go_wp2_with fail
      go_ret2
      exact ⟨by rw [HF.out, if_neg HQ.out]; rfl, hb⟩
end Go.Proofs.Ytlpkkcodmoklaaa
