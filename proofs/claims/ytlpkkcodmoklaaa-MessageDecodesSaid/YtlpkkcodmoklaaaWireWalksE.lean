/- The walk of wire.number. -/
import Derived.Test.YtlpkkcodmoklaaaWireWalksD
import Derived.WalkSpells
namespace Go.Proofs.Ytlpkkcodmoklaaa
open Go.RowKit
attribute [local go_sem] bs_size bs_get bs_append bs_extract bs_toList
theorem or_join (q r : Nat) (hr : r < 128) (hq : 128 * q < 18446744073709551616) : bits .or .u64 ((q : Int) * 128) (r : Int) = ((r + 128 * q : Nat) : Int) := by
  have h : bits .or .u64 ((q * 128 : Nat) : Int) (r : Int) = ((q * 128 ||| r : Nat) : Int) := u64_or_nat (q * 128) r (by omega) (by omega)
  rw [nat_join 7 (q * 128) r (by omega) (by omega)] at h
  rw [show ((q : Int) * 128) = ((q * 128 : Nat) : Int) by omega, h]
  omega
theorem numberW_any (p : List UInt8) (g c : Nat) (w : World) (hp : p.length ≤ 100) (hv : Wire.val p < 18446744073709551616) (hcell : ∀ j x, p[j]? = some x → w.cell? ⟨g, j, none⟩ = some (.int .u8 (x.toNat : Int))) :
    Calls Try.prog 70 #[.slice (some ⟨g, 0, none⟩) p.length c] w fun e w' => e = .returned (.int .u64 (Wire.val p : Nat)) ∧ w = w' := by
  have HC := Lib.hid hcell
  clear hcell
  go_enter Try.func70, Try.ntmps70
  go_wp2_with fail
  go_loop [3, 4] (fun n i => ∃ k : Nat, k ≤ p.length ∧ i = .int .i64 ((k : Int) - 1) ∧ n = .int .u64 (Wire.val (p.drop k) : Nat)) (fun _ i => (intOf i + 1).toNat)
  case atStart => exact ⟨p.length, Nat.le_refl _, rfl, by rw [List.drop_of_length_le (Nat.le_refl _)]; rfl⟩
  case round =>
    obtain ⟨k, hk, rfl, rfl⟩ := hrel
    by_cases h0 : 0 < k
    · obtain ⟨m, hm⟩ : ∃ m, k = m + 1 := ⟨k - 1, by omega⟩
      have hml : m < p.length := by omega
      have hd := Wire.val_drop p m hml
      have hle := Wire.val_drop_le p m
      rw [hm]
      clear hm
      have hi : (((m + 1 : Nat) : Int) - 1) = (m : Int) := by omega
      rw [hi]
      clear hi
      have hc := HC.out m p[m] (List.getElem?_eq_getElem hml)
      have hb := p[m].toNat_lt
      generalize Wire.val (p.drop (m + 1)) = q at hd ⊢
      generalize p[m] = x at hd hc hb
      have hq : 128 * q < 18446744073709551616 := by omega
      have ha : bits .and .u8 (x.toNat : Int) 127 = (x.toNat : Int) % 128 := by
        have := u8_and_nat x.toNat 127 (by omega) (by omega)
        rw [nat_mask7] at this
        simpa using this
      have ho := or_join q (x.toNat % 128) (by omega) hq
      rw [← hd] at ho
      have hmod : ((x.toNat % 128 : Nat) : Int) = (x.toNat : Int) % 128 := by omega
      rw [hmod] at ho
      clear hmod hle hd
      go_wp2
      go_round
      case rel => exact ⟨m, by omega, by go_num, rfl⟩
      case measure => simp [intOf] <;> omega
    · obtain rfl : k = 0 := by omega
      go_wp2
      go_ret
      exact ⟨rfl, rfl⟩
end Go.Proofs.Ytlpkkcodmoklaaa
