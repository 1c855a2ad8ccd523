/- The walks of crc.Sum, its reference, crc.checksum and crc.Seal: each returns what the plain function says. -/
import Derived.Test.YtlpkkcodmoklaaaRows
import Derived.Test.YtlpkkcodmoklaaaCrcPlain
import Derived.Test.YtlpkkcodmoklaaaBase
import Derived.Below
namespace Go.Proofs.Ytlpkkcodmoklaaa
open Go.RowKit
attribute [local go_sem] bs_size bs_get bs_append bs_extract bs_toList bs_nil
theorem Crc.refSteps_lt {c n : Nat} (hc : c < 256) (hn : n < 4294967296) (k : Nat) : Crc.refSteps c k n < 4294967296 := by
  rw [Crc.refSteps_eq]
  refine Crc.xor_lt32 (Crc.steps_lt (Crc.xor_lt32 hn (by omega)) k) ?_
  rw [Nat.shiftRight_eq_div_pow]
  exact Nat.lt_of_le_of_lt (Nat.div_le_self _ _) (by omega)
theorem shr_int (c j : Nat) : (c : Int) / 2 ^ j = ((c >>> j : Nat) : Int) := by
  rw [Nat.shiftRight_eq_div_pow]; simp
theorem sum_any (l : List UInt8) (w : World) (hs : l.length ≤ maxLen) :
    Calls Try.prog 20 #[.string (bs l)] w fun e w' => e = .returned (.int .u32 (Crc.sum l : Nat)) ∧ w = w' := by
  unfold maxLen at hs
  go_enter Try.func20, Try.ntmps20
  go_wp2
  go_loop [3, 4] (fun r i => ∃ k : Nat, k ≤ l.length ∧ i = .int .i64 k ∧ r = .int .u32 (Crc.reg 4294967295 (l.take k) : Nat)) (fun _ i => l.length - (intOf i).toNat)
  case atStart => exact ⟨0, Nat.zero_le _, rfl, rfl⟩
  case round =>
    obtain ⟨k, hk, rfl, rfl⟩ := hrel
    have hR := Crc.reg_lt (l.take k) (r := 4294967295) (by omega)
    obtain ⟨R, hRd⟩ : ∃ R, Crc.reg 4294967295 (l.take k) = R := ⟨_, rfl⟩
    rw [hRd] at hR ⊢
    by_cases hlt : k < l.length
    · have hb := Crc.u8_lt l[k]
      have hts : Crc.reg 4294967295 (l.take (k + 1)) = Crc.steps 8 (R ^^^ l[k].toNat) := by rw [take_snoc l k hlt, Crc.reg_snoc, hRd]; rfl
      have HT := Lib.hid hts
      clear hts hRd
      generalize hc : l[k].toNat = c at hb HT
      have e1 : bits .xor .u32 (R : Nat) (c : Nat) = ((R ^^^ c : Nat) : Int) := u32_xor_nat _ _ hR (by omega)
      have hR2 : R ^^^ c < 4294967296 := Crc.xor_lt32 hR (by omega)
      go_wp2
      clear hc e1
      go_loop [3, 18] (fun r i => ∃ j : Nat, j ≤ 8 ∧ i = .int .i64 j ∧ r = .int .u32 (Crc.steps j (R ^^^ c) : Nat)) (fun _ i => 8 - (intOf i).toNat)
      case atStart => exact ⟨0, Nat.zero_le _, rfl, rfl⟩
      case round =>
        obtain ⟨j, hj, rfl, rfl⟩ := hrel
        have hS := Crc.steps_lt hR2 j
        by_cases hj8 : j < 8
        · obtain ⟨S, hSd⟩ : ∃ S, Crc.steps j (R ^^^ c) = S := ⟨_, rfl⟩
          rw [hSd] at hS ⊢
          have hst : Crc.steps (j + 1) (R ^^^ c) = Crc.step S := by rw [Crc.steps, hSd]
          have HS := Lib.hid hst
          clear hst hSd
          have ea := and1_u32 S hS
          have ex : bits .xor .u32 ((S : Int) / 2) 3988292384 = ((S / 2 ^^^ 3988292384 : Nat) : Int) := u32_xor_nat (S / 2) _ (by omega) (by decide)
          by_cases hm : S % 2 = 1
          all_goals
            go_wp2
            go_round
            case rel => exact ⟨j + 1, by omega, by go_num, by rw [HS.out]; simp [Crc.step, Crc.poly, hm]⟩
            case measure => simp [intOf]; omega
        · obtain rfl : j = 8 := by omega
          go_wp2
          go_round
          case rel => exact ⟨k + 1, by omega, by go_num, by rw [HT.out]⟩
          case measure => simp [intOf]; omega
    · go_wp2
      go_ret
      exact ⟨ret_int (by show bits .xor .u32 IntKind.u32.max (R : Nat) = _; rw [not_u32 R hR, Crc.sum, ← hRd, take_all l k hlt]), rfl⟩
theorem refSum_any (l : List UInt8) (w : World) (hs : l.length ≤ maxLen) :
    Calls Try.prog 21 #[.string (bs l)] w fun e w' => e = .returned (.int .u32 (Crc.sum l : Nat)) ∧ w = w' := by
  unfold maxLen at hs
  go_enter Try.func21, Try.ntmps21
  go_wp2
  go_loop [3, 4] (fun r i => ∃ k : Nat, k ≤ l.length ∧ i = .int .i64 k ∧ r = .int .u32 (Crc.reg 4294967295 (l.take k) : Nat)) (fun _ i => l.length - (intOf i).toNat)
  case atStart => exact ⟨0, Nat.zero_le _, rfl, rfl⟩
  case round =>
    obtain ⟨k, hk, rfl, rfl⟩ := hrel
    have hR := Crc.reg_lt (l.take k) (r := 4294967295) (by omega)
    obtain ⟨R, hRd⟩ : ∃ R, Crc.reg 4294967295 (l.take k) = R := ⟨_, rfl⟩
    rw [hRd] at hR ⊢
    by_cases hlt : k < l.length
    · have hb := Crc.u8_lt l[k]
      have hts : Crc.reg 4294967295 (l.take (k + 1)) = Crc.refSteps l[k].toNat 8 R := by rw [take_snoc l k hlt, Crc.reg_snoc, hRd, Crc.ref_byte]
      have HT := Lib.hid hts
      clear hts hRd
      generalize hc : l[k].toNat = c at hb HT
      have HC := Lib.hid hc
      clear hc
      go_wp2
      go_loop [3, 5] (fun r i => ∃ j : Nat, j ≤ 8 ∧ i = .int .i64 j ∧ r = .int .u32 (Crc.refSteps c j R : Nat)) (fun _ i => 8 - (intOf i).toNat)
      case atStart => exact ⟨0, Nat.zero_le _, rfl, rfl⟩
      case round =>
        obtain ⟨j, hj, rfl, rfl⟩ := hrel
        have hS := Crc.refSteps_lt hb hR j
        by_cases hj8 : j < 8
        · obtain ⟨S, hSd⟩ : ∃ S, Crc.refSteps c j R = S := ⟨_, rfl⟩
          rw [hSd] at hS ⊢
          have hst : Crc.refSteps c (j + 1) R = Crc.refStep c j S := by rw [Crc.refSteps, hSd]
          have HS := Lib.hid hst
          clear hst hSd
          have hd := shr_int c j
          have hb2 : c >>> j < 256 := by rw [Nat.shiftRight_eq_div_pow]; exact Nat.lt_of_le_of_lt (Nat.div_le_self _ _) hb
          have hst : Crc.refStep c j S = if (S ^^^ (c >>> j)) % 2 = 1 then (S / 2) ^^^ Crc.poly else S / 2 := rfl
          generalize c >>> j = d at hd hb2 hst
          have HU := Lib.hid hst
          clear hst
          have e2 : bits .xor .u32 (S : Nat) (d : Nat) = ((S ^^^ d : Nat) : Int) := u32_xor_nat _ _ hS (by omega)
          have ea := and1_u32 (S ^^^ d) (Crc.xor_lt32 hS (by omega))
          have ex : bits .xor .u32 ((S : Int) / 2) 3988292384 = ((S / 2 ^^^ 3988292384 : Nat) : Int) := u32_xor_nat (S / 2) _ (by omega) (by decide)
          have hc := HC.out
          by_cases hm : (S ^^^ d) % 2 = 1
          all_goals
            go_wp2
            go_round
            case rel => exact ⟨j + 1, by omega, by go_num, by rw [HS.out]; rw [HU.out]; simp [Crc.poly, hm]⟩
            case measure => simp [intOf]; omega
        · obtain rfl : j = 8 := by omega
          go_wp2
          go_round
          case rel => exact ⟨k + 1, by omega, by go_num, by rw [HT.out]⟩
          case measure => simp [intOf]; omega
    · go_wp2
      go_ret
      exact ⟨ret_int (by show bits .xor .u32 (R : Nat) (4294967295 : Nat) = _; rw [u32_xor_nat R 4294967295 hR (by decide), Crc.sum, ← hRd, take_all l k hlt]), rfl⟩
theorem checksum_any (l : List UInt8) (w : World) (hs : l.length ≤ maxLen) :
    Calls Try.prog 67 #[.string (bs l)] w fun e w' => e = .returned (.agg #[.int .u8 ((Crc.sum l : Nat) / 16777216 : Int), .int .u8 ((Crc.sum l : Nat) / 65536 % 256 : Int), .int .u8 ((Crc.sum l : Nat) / 256 % 256 : Int), .int .u8 ((Crc.sum l : Nat) % 256 : Int)]) ∧
      w' = w.alloc (.cells #[.int .u8 ((Crc.sum l : Nat) / 16777216 : Int), .int .u8 ((Crc.sum l : Nat) / 65536 % 256 : Int), .int .u8 ((Crc.sum l : Nat) / 256 % 256 : Int), .int .u8 ((Crc.sum l : Nat) % 256 : Int)] 80) := by
  have hlt := Crc.sum_lt l
  go_enter Try.func67, Try.ntmps67
  go_wp2_with (go_at_call 20; refine (sum_any _ _ hs).mono ?_; rintro e w' ⟨rfl, rfl⟩)
  generalize Crc.sum l = n at hlt ⊢
  exact bodyPost_ret (v := .agg #[.int .u8 ((n : Nat) / 16777216 : Int), .int .u8 ((n : Nat) / 65536 % 256 : Int), .int .u8 ((n : Nat) / 256 % 256 : Int), .int .u8 ((n : Nat) % 256 : Int)]) (by simp [results, Try.results67, go_sem]) rfl ⟨rfl, rfl⟩
theorem tail_nums (n : Nat) (h : n < 4294967296) : strOfNums [((n : Nat) / 16777216 : Int), ((n : Nat) / 65536 % 256 : Int), ((n : Nat) / 256 % 256 : Int), ((n : Nat) % 256 : Int)] = bs (Crc.tail n) := by
  unfold strOfNums bs
  have e : ∀ a b : Nat, a % 256 = b % 256 → UInt8.ofNat a = UInt8.ofNat b := fun a b h => by
    apply UInt8.toNat_inj.1
    simpa using h
  simp only [List.map_cons, List.map_nil, Crc.tail]
  rw [e (((n : Nat) : Int) / 16777216).toNat (n / 16777216) (by omega), e (((n : Nat) : Int) / 65536 % 256).toNat (n / 65536) (by omega), e (((n : Nat) : Int) / 256 % 256).toNat (n / 256) (by omega), e (((n : Nat) : Int) % 256).toNat n (by omega)]
theorem seal_any (l : List UInt8) (w : World) (hs : l.length ≤ 100000) :
    Calls Try.prog 22 #[.string (bs l)] w fun e w' => e = .returned (.string (bs (Crc.sealed l))) ∧ Below w.heap.size w w' := by
  have hlt := Crc.sum_lt l
  have hd : Crc.sealed l = l ++ Crc.tail (Crc.sum l) := rfl
  have htl := Crc.tail_length (Crc.sum l)
  go_enter Try.func22, Try.ntmps22
  go_wp2_with fail
  refine (checksum_any _ _ (by unfold maxLen; omega)).mono ?_
  rintro e w1 ⟨rfl, hw⟩
  have hb : Below w.heap.size w w1 := by rw [hw]; exact (Below.refl _ _).alloc (Nat.le_refl _) _
  clear hw
  generalize Crc.sum l = n at hlt hd htl ⊢
  have ht := tail_nums n hlt
  have hcv : (convert 30 9 (.slice (some ⟨w1.heap.size, 0, none⟩) 4 4)).run Try.prog (w1.alloc (.cells #[.int .u8 ((n : Nat) / 16777216 : Int), .int .u8 ((n : Nat) / 65536 % 256 : Int), .int .u8 ((n : Nat) / 256 % 256 : Int), .int .u8 ((n : Nat) % 256 : Int)] 80)) = _ := conv_alloc w1 30 5 9 80 Try.underlying30 Try.underlying5 Try.underlying9 [((n : Nat) / 16777216 : Int), ((n : Nat) / 65536 % 256 : Int), ((n : Nat) / 256 % 256 : Int), ((n : Nat) % 256 : Int)] 4 4 rfl
  rw [ht] at hcv
  generalize Crc.tail n = t at hcv htl ht hd
  have hle : t.length ≤ 4 := by omega
  have HD := Lib.hid hd
  clear ht htl hd
  go_wp2_with fail
  go_ret
  exact ⟨ret_v (by rw [HD.out]; rfl), hb.alloc hb.size _⟩
end Go.Proofs.Ytlpkkcodmoklaaa
