/- The walks of crc.add, crc.number, crc.Hex and the reference's Hex. -/
import Derived.Test.YtlpkkcodmoklaaaBaseB
import Derived.Test.YtlpkkcodmoklaaaCrcPlain
import Derived.Test.YtlpkkcodmoklaaaRows
namespace Go.Proofs.Ytlpkkcodmoklaaa
open Go.RowKit
attribute [local go_sem] bs_size bs_get bs_append bs_extract bs_toList bs_nil
theorem wrapu64 (R : Nat) (c : UInt8) : IntKind.u64.wrap (((R ^^^ c.toNat : Nat) : Int) * 1099511628211) = ((Crc.add1 R c : Nat) : Int) := by
  unfold Crc.add1
  rw [IntKind.wrap_u64]
  omega
theorem add_any (r : Nat) (l : List UInt8) (w : World) (hs : l.length ≤ maxLen) (hr : r < 18446744073709551616) :
    Calls Try.prog 68 #[.int .u64 r, .string (bs l)] w fun e w' => e = .returned (.int .u64 (Crc.addAll r l : Nat)) ∧ w = w' := by
  unfold maxLen at hs
  go_enter Try.func68, Try.ntmps68
  go_wp2
  go_loop [0, 5] (fun r' i => ∃ k : Nat, k ≤ l.length ∧ i = .int .i64 k ∧ r' = .int .u64 (Crc.addAll r (l.take k) : Nat)) (fun _ i => l.length - (intOf i).toNat)
  case atStart => exact ⟨0, Nat.zero_le _, rfl, rfl⟩
  case round =>
    obtain ⟨k, hk, rfl, rfl⟩ := hrel
    have hR := Crc.addAll_lt (l.take k) (r := r) hr
    by_cases hlt : k < l.length
    · have hts : Crc.addAll r (l.take (k + 1)) = Crc.add1 (Crc.addAll r (l.take k)) l[k] := by rw [take_snoc l k hlt, Crc.addAll_snoc]
      have HT := Lib.hid hts
      clear hts
      generalize Crc.addAll r (l.take k) = R at hR HT ⊢
      have hb := Crc.u8_lt l[k]
      generalize hc : l[k] = c at hb HT
      have e1 : bits .xor .u64 (R : Nat) (c.toNat : Nat) = ((R ^^^ c.toNat : Nat) : Int) := u64_xor_nat _ _ hR (by omega)
      go_wp2
      go_round
      case rel => exact ⟨k + 1, by omega, by go_num, by rw [HT.out, wrapu64]⟩
      case measure => simp [intOf] <;> omega
    · go_wp2
      go_ret
      exact ⟨ret_int (by rw [take_all l k hlt]), rfl⟩
set_option maxRecDepth 100000 in
theorem number_any (n : Nat) (w : World) (_hn : n < 18446744073709551616) :
    Calls Try.prog 69 #[.int .u64 n] w fun e w' => e = .returned (.string (bs (Crc.le8 n))) ∧ Below w.heap.size w w' := by
  have hx : (cellsU8 (Crc.le8 n)).length = 8 := by rw [cellsU8_length]; exact Crc.le8_length n
  have hget : ∀ k, k < 8 → (cellsU8 (Crc.le8 n))[k]? = some (.int .u8 ((n : Int) / 2 ^ (8 * k) % 256)) := by
    intro k hk
    rw [cellsU8_get, Crc.le8_get n k hk, Option.map_some, u8_of, pow256]
    simp
  have hcv := conv_row (P := Try.prog) w 30 5 9 111 Try.underlying30 Try.underlying5 Try.underlying9 (Crc.le8 n) 8 8 (Crc.le8_length n)
  generalize hl : Crc.le8 n = l at hx hget hcv ⊢
  clear hl
  generalize cellsU8 l = xs at hx hget hcv
  go_enter Try.func69, Try.ntmps69
  go_wp2
  go_loopw [5] (fun i wr => ∃ k : Nat, k ≤ 8 ∧ i = .int .i64 k ∧ wr = w.alloc (.cells (fillA xs 8 k (.int .u8 0)) 111)) (fun i _ => 8 - (intOf i).toNat)
  case atStart => exact ⟨0, Nat.zero_le _, rfl, rfl⟩
  case round =>
    obtain ⟨k, hk, rfl, rfl⟩ := hrel
    by_cases hlt : k < 8
    · have hv := hget k hlt
      have hset := fillA_set xs 8 k (.int .u8 0) _ hx hlt hv
      have hcell : (fillA xs 8 k (.int .u8 0))[k]? = some (.int .u8 0) := fillA_get xs 8 k _ hx hlt
      go_wp2
      go_roundw
      case rel => exact ⟨k + 1, by omega, by go_num, rfl⟩
      case measure => simp [intOf] <;> omega
    · obtain rfl : k = 8 := by omega
      rw [fillA_all xs 8 _ hx]
      go_wp2
      go_ret
      exact ⟨rfl, (Below.refl _ _).alloc (Nat.le_refl _) _⟩
theorem hexdig (d : Nat) (hd : d < 16) (w : World) : (Instr.index 9 (.string { data := #[48, 49, 50, 51, 52, 53, 54, 55, 56, 57, 97, 98, 99, 100, 101, 102] }) (.int .u64 d)).run Try.prog w = .ok (.int .u8 ((Crc.dig d).toNat : Int)) w := by
  rw [run_index_string _ _ _ _ _ Try.underlying9]
  rw [dif_pos (by simp [ByteArray.size]; omega)]
  congr 3
  have : ∀ d, d < 16 → ∀ h, ((({ data := #[48, 49, 50, 51, 52, 53, 54, 55, 56, 57, 97, 98, 99, 100, 101, 102] } : ByteArray)[((d : Nat) : Int).toNat]'h) = Crc.dig d) := by decide
  rw [this d hd]
set_option maxRecDepth 100000 in
theorem hex_any (n : Nat) (w : World) (hn : n < 18446744073709551616) :
    Calls Try.prog 29 #[.int .u64 n] w fun e w' => e = .returned (.string (bs (Crc.hex n))) ∧ Below w.heap.size w w' := by
  have hx : (cellsU8 (Crc.hex n)).length = 16 := by rw [cellsU8_length]; exact Crc.hex_length n
  have hget : ∀ j, j < 16 → (cellsU8 (Crc.hex n))[15 - j]? = some (.int .u8 ((Crc.dig (n / 16 ^ j % 16)).toNat : Int)) := by
    intro j hj
    have := Crc.hexF_get 16 n j hj
    rw [cellsU8_get, Crc.hex, show 15 - j = 16 - 1 - j by omega, this, Option.map_some]
  have hcv := conv_row (P := Try.prog) w 30 5 9 83 Try.underlying30 Try.underlying5 Try.underlying9 (Crc.hex n) 16 16 (Crc.hex_length n)
  generalize hl : Crc.hex n = l at hx hget hcv ⊢
  clear hl
  generalize cellsU8 l = xs at hx hget hcv
  go_enter Try.func29, Try.ntmps29
  go_wp2
  go_loopw [0, 4] (fun h i wr => ∃ j : Nat, j ≤ 16 ∧ i = .int .i64 (15 - (j : Int)) ∧ h = .int .u64 ((n / 16 ^ j : Nat) : Int) ∧ wr = w.alloc (.cells (fillB xs (16 - j) (.int .u8 0)) 83)) (fun _ i _ => (intOf i + 1).toNat)
  case atStart => exact ⟨0, Nat.zero_le _, rfl, by simp, by rw [Nat.sub_zero, fillB_none xs 16 _ hx]; rfl⟩
  case round =>
    obtain ⟨j, hj, rfl, rfl, rfl⟩ := hrel
    by_cases hlt : j < 16
    · obtain ⟨q, hq⟩ : ∃ q, 16 - j = q + 1 := ⟨15 - j, by omega⟩
      have hv := hget j hlt
      rw [show 15 - j = q by omega] at hv
      have hset := fillB_set xs q (.int .u8 0) _ hv
      have hcell := fillB_get xs q (.int .u8 0)
      have hM : n / 16 ^ j < 18446744073709551616 := Nat.lt_of_le_of_lt (Nat.div_le_self _ _) hn
      have hs : n / 16 ^ (j + 1) = n / 16 ^ j / 16 := by rw [Nat.div_div_eq_div_mul, Nat.pow_succ]
      have HS := Lib.hid hs
      clear hs
      generalize hN : n / 16 ^ j = M at hv hset hM HS ⊢
      clear hN
      have hd : ∀ W, (Instr.index 9 (.string { data := #[48, 49, 50, 51, 52, 53, 54, 55, 56, 57, 97, 98, 99, 100, 101, 102] }) (.int .u64 ((M : Int) % 16))).run Try.prog W = .ok (.int .u8 ((Crc.dig (M % 16)).toNat : Int)) W := fun W => by
        rw [show ((M : Int) % 16) = ((M % 16 : Nat) : Int) by omega]
        exact hexdig (M % 16) (by omega) W
      have ha : bits .and .u64 (M : Int) 15 = ((M % 16 : Nat) : Int) := by rw [← nat_mask4]; exact u64_and_nat M 15 hM (by omega)
      rw [hq]
      have hi : (15 : Int) - j = q := by omega
      rw [hi]
      go_wp2
      go_roundw
      case rel => exact ⟨j + 1, by omega, by go_num, by rw [HS.out]; simp, by rw [show 16 - (j + 1) = q by omega]⟩
      case measure => simp [intOf] <;> omega
    · obtain rfl : j = 16 := by omega
      have e1 : fillB xs (16 - 16) (.int .u8 0) = xs.toArray := fillB_all xs _
      have hi : (15 : Int) - ((16 : Nat) : Int) = -1 := by omega
      generalize n / 16 ^ 16 = M
      rw [e1, hi]
      go_wp2
      go_ret
      exact ⟨rfl, (Below.refl _ _).alloc (Nat.le_refl _) _⟩
theorem utf8_dig : ∀ d, d < 16 → Utf8.encode ((Crc.dig d).toNat : Int) = bs [Crc.dig d] := by decide
set_option maxRecDepth 100000 in
theorem refHex_any (n : Nat) (w : World) (hn : n < 18446744073709551616) :
    Calls Try.prog 30 #[.int .u64 n] w fun e w' => e = .returned (.string (bs (Crc.hex n))) ∧ w = w' := by
  go_enter Try.func30, Try.ntmps30
  go_wp2
  go_loop [0, 3, 4] (fun h s i => ∃ j : Nat, ∃ acc : List UInt8, j ≤ 16 ∧ i = .int .i64 j ∧ h = .int .u64 ((n / 16 ^ j : Nat) : Int) ∧ s = .string (bs acc) ∧ acc.length = j ∧ Crc.hex n = Crc.hexF (16 - j) (n / 16 ^ j) acc) (fun _ _ i => (16 - intOf i).toNat)
  case atStart => exact ⟨0, [], Nat.zero_le _, rfl, by simp, rfl, rfl, by simp [Crc.hex]⟩
  case round =>
    obtain ⟨j, acc, hj, rfl, rfl, rfl, hacc, hhex⟩ := hrel
    have HH := Lib.hid hhex
    clear hhex
    have hal : acc.length ≤ 16 := by omega
    have HA := Lib.hid hacc
    clear hacc
    by_cases hlt : j < 16
    · have hs : n / 16 ^ (j + 1) = n / 16 ^ j / 16 := by rw [Nat.div_div_eq_div_mul, Nat.pow_succ]
      have HS := Lib.hid hs
      clear hs
      have hM : n / 16 ^ j < 18446744073709551616 := Nat.lt_of_le_of_lt (Nat.div_le_self _ _) hn
      generalize n / 16 ^ j = M at hM HS HH ⊢
      have hd : ∀ W, (Instr.index 9 (.string { data := #[48, 49, 50, 51, 52, 53, 54, 55, 56, 57, 97, 98, 99, 100, 101, 102] }) (.int .u64 ((M : Int) % 16))).run Try.prog W = .ok (.int .u8 ((Crc.dig (M % 16)).toNat : Int)) W := fun W => by
        rw [show ((M : Int) % 16) = ((M % 16 : Nat) : Int) by omega]
        exact hexdig (M % 16) (by omega) W
      have hu := utf8_dig (M % 16) (by omega)
      have hac := HA.out
      have hF : Crc.hexF (16 - j) M acc = Crc.hexF (16 - (j + 1)) (M / 16) (Crc.dig (M % 16) :: acc) := by
        rw [show 16 - j = (16 - (j + 1)) + 1 by omega, Crc.hexF]
      generalize Crc.dig (M % 16) = dd at hd hu hF
      have HF := Lib.hid hF
      clear hF hac
      obtain ⟨us, hus⟩ : ∃ us, bs [dd] = us := ⟨_, rfl⟩
      have hsz : us.size ≤ 1 := by rw [← hus, bs_size]; simp
      rw [hus] at hu
      have HU := Lib.hid hus
      clear hus
      have hadd : ∀ W, (Op.stringOp .add us (bs acc)).run Try.prog W = .ok (.string (us ++ bs acc)) W := fun W => run_string_add_sum W us (bs acc) (by rw [bs_size]; omega)
      clear hsz hal
      have hcv : ∀ W, (convert 5 9 (.int .u8 (dd.toNat : Int))).run Try.prog W = .ok (.string us) W := fun W => by
        rw [run_convert_int_string _ _ _ _ _ (by rw [Try.underlying5]; rfl) Try.underlying9, hu]
      clear hu
      go_wp2
      go_round
      case rel => exact ⟨j + 1, dd :: acc, by omega, by go_num, by rw [HS.out]; simp, by rw [← HU.out, bs_append]; rfl, by rw [List.length_cons, HA.out], by rw [HS.out, HH.out, HF.out]⟩
      case measure => simp [intOf] <;> omega
    · have HF := HH.out
      rw [show 16 - j = 0 by omega] at HF
      generalize n / 16 ^ j = M at HF ⊢
      have HG := Lib.hid HF
      clear HF HH HA
      go_wp2
      go_ret
      exact ⟨ret_v (by rw [HG.out]; rfl), rfl⟩
end Go.Proofs.Ytlpkkcodmoklaaa
