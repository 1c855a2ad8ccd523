/- The walk of the reference's TakeUint. -/
import Derived.Test.YtlpkkcodmoklaaaWireWalksE
namespace Go.Proofs.Ytlpkkcodmoklaaa
open Go.RowKit
attribute [local go_sem] bs_size bs_get bs_append bs_extract bs_toList
theorem ret3_mid' {u z : Value} {x y : Int} (h : x = y) : Ending.returned (.tuple #[u, .int .i64 x, z]) = .returned (.tuple #[u, .int .i64 y, z]) := by rw [h]
theorem ret3_both {z : Value} {u u' x y : Int} (hu : u = u') (h : x = y) : Ending.returned (.tuple #[.int .u64 u, .int .i64 x, z]) = .returned (.tuple #[.int .u64 u', .int .i64 y, z]) := by rw [hu, h]
theorem takeU_out' (l : List UInt8) (at' : Int) (h : at' < 0 ∨ (l.length : Int) < at') : Wire.takeU l at' = (0, 0, 1) := by
  unfold Wire.takeU
  rw [if_pos h]
theorem takeU_stop' {l : List UInt8} {a e : Nat} (hal : a ≤ l.length) (he : e ≠ 0) (h : Wire.scan 0 (l.drop a) = (e, 0)) : Wire.takeU l (a : Int) = (0, 0, (e : Int)) := by
  unfold Wire.takeU
  rw [if_neg (by omega), Int.toNat_natCast, h, if_neg he]
theorem takeU_last' {l : List UInt8} {a k : Nat} (hal : a ≤ l.length) (h : Wire.scan 0 (l.drop a) = (0, k + 1)) : Wire.takeU l (a : Int) = (Wire.val ((l.drop a).take (k + 1)), (a : Int) + k + 1, 0) ∧ Wire.val ((l.drop a).take (k + 1)) < 18446744073709551616 := by
  constructor
  · unfold Wire.takeU
    rw [if_neg (by omega), Int.toNat_natCast, h, if_pos rfl]
    simp
    omega
  · rcases Wire.scan_exact (l.drop a) 9 0 _ _ rfl h with ⟨_, _, _, _, _, h5, _⟩ | ⟨h, _⟩ | ⟨h, _⟩
    · rw [Wire.cap9] at h5
      simpa using h5
    · cases h
    · cases h
theorem pow128 (k : Nat) (h : k ≤ 9) : 128 ^ k ≤ 9223372036854775808 := by
  have : ∀ k, k ≤ 9 → 128 ^ k ≤ 9223372036854775808 := by decide
  exact this k h
theorem pow128' (k : Nat) (h : k < 9) : 128 ^ k ≤ 72057594037927936 := by
  have : ∀ k, k < 9 → 128 ^ k ≤ 72057594037927936 := by decide
  exact this k h
set_option maxRecDepth 100000 in
set_option maxHeartbeats 4000000 in
theorem refTakeUint_any (l : List UInt8) (at' : Int) (w : World) (hs : l.length ≤ 140737488351232) (h1 : -9223372036854775808 ≤ at') (h2 : at' ≤ 9223372036854775807) :
    Calls Try.prog 46 #[.string (bs l), .int .i64 at'] w fun e w' => e = .returned (.tuple #[.int .u64 ((Wire.takeU l at').1 : Nat), .int .i64 (Wire.takeU l at').2.1, .int .i64 (Wire.takeU l at').2.2]) ∧ w = w' := by
  by_cases hneg : at' < 0
  · have ho := takeU_out' l at' (Or.inl hneg)
    have HO := Lib.hid ho
    clear ho
    go_enter Try.func46, Try.ntmps46
    go_wp2_with fail
    go_ret3
    exact ⟨by rw [HO.out]; rfl, rfl⟩
  · by_cases hbig : (l.length : Int) < at'
    · have ho := takeU_out' l at' (Or.inr hbig)
      have HO := Lib.hid ho
      clear ho
      go_enter Try.func46, Try.ntmps46
      go_wp2_with fail
      go_ret3
      exact ⟨by rw [HO.out]; rfl, rfl⟩
    · obtain ⟨a, rfl⟩ := Int.eq_ofNat_of_zero_le (show 0 ≤ at' by omega)
      have hal : a ≤ l.length := by omega
      go_enter Try.func46, Try.ntmps46
      go_wp2_with fail
      go_loop [7, 8, 9] (fun n p i => ∃ k : Nat, k ≤ 9 ∧ a + k ≤ l.length ∧ i = .int .i64 k ∧ n = .int .u64 (Wire.val ((l.drop a).take k) : Nat) ∧ p = .int .u64 ((128 ^ k : Nat) : Int) ∧ Wire.scan 0 (l.drop a) = Wire.scan k ((l.drop a).drop k)) (fun _ _ i => (10 - intOf i).toNat)
      case atStart => exact ⟨0, by omega, by omega, rfl, rfl, rfl, by simp⟩
      case round =>
        obtain ⟨k, hk, hak, rfl, rfl, rfl, hsc⟩ := hrel
        have hvl := Wire.val_lt ((l.drop a).take k)
        have hpl : ((l.drop a).take k).length = k := by rw [List.length_take, List.length_drop]; omega
        rw [hpl] at hvl
        have hp9 := pow128 k hk
        by_cases hlt : a + k < l.length
        · have hkl : k < (l.drop a).length := by rw [List.length_drop]; omega
          have hge : (l.drop a)[k] = l[a + k] := by simp
          have hvt := Wire.val_take (l.drop a) k hkl
          rw [List.drop_eq_getElem_cons hkl] at hsc
          rw [hge] at hvt hsc
          have hps : 128 ^ (k + 1) = 128 ^ k * 128 := Nat.pow_succ 128 k
          have hp8 : k < 9 → 128 ^ k ≤ 72057594037927936 := pow128' k
          have HPS := Lib.hid hps
          have hb := l[a + k].toNat_lt
          clear hge hps hpl
          generalize hcc : l[a + k] = c at hvt hsc hb
          have HCC := Lib.hid hcc
          clear hcc
          generalize Wire.val ((l.drop a).take k) = N at hvl hvt ⊢
          generalize 128 ^ k = P at hvl hvt hp9 hp8 HPS ⊢
          by_cases hstop : (c.toNat = 0 ∧ 0 < k) ∨ (k = 9 ∧ c.toNat ≠ 1)
          · rw [Wire.scan_stop hstop] at hsc
            have hfin := takeU_stop' hal (by decide) hsc
            have HF := Lib.hid hfin
            clear hfin hsc hvt hvl hp9 hp8
            rcases (show (c.toNat < 1 ∧ 0 < k) ∨ (0 < c.toNat ∧ 9 ≤ k ∧ k ≤ 9 ∧ 1 < c.toNat) by omega) with ⟨g1, g2⟩ | ⟨g1, g2, g3, g4⟩
            · have b0 : ((c.toNat : Int) == 0) = true := by rw [beq_iff_eq]; omega
              clear hstop
              have hcc := HCC.out
              go_wp2_with fail
              go_ret3
              exact ⟨by rw [HF.out]; rfl, rfl⟩
            · have b0 : ((c.toNat : Int) == 0) = false := by rw [beq_eq_false_iff_ne]; omega
              have b1 : ((c.toNat : Int) != 1) = true := by rw [bne_iff_ne]; omega
              have b9 : ((k : Int) == 9) = true := by rw [beq_iff_eq]; omega
              clear hstop
              have hcc := HCC.out
              go_wp2_with fail
              go_ret3
              exact ⟨by rw [HF.out]; rfl, rfl⟩
          · by_cases hlast : c.toNat < 128
            · rw [Wire.scan_last hstop hlast] at hsc
              have hfin := takeU_last' hal hsc
              have HF := Lib.hid hfin.1
              have hval := hfin.2
              obtain ⟨T, hT⟩ : ∃ T : Nat, T = c.toNat % 128 * P := ⟨_, rfl⟩
              rw [← hT] at hvt
              rw [hvt] at hval
              have hTw : IntKind.u64.wrap ((c.toNat : Int) % 128 * (P : Int)) = (T : Int) := by
                rw [IntKind.wrap_u64, hT]
                have e : ((c.toNat : Int) % 128 * (P : Int)) = ((c.toNat % 128 * P : Nat) : Int) := by simp
                rw [e, ← hT]
                omega
              have HV := Lib.hid hvt
              clear hfin hsc hvt hT
              rcases (show (c.toNat < 1 ∧ k < 1) ∨ (0 < c.toNat ∧ k < 9) ∨ (0 < c.toNat ∧ c.toNat < 2 ∧ 9 ≤ k ∧ k < 10) by omega) with ⟨g1, g2⟩ | ⟨g1, g2⟩ | ⟨g1, g2, g3, g4⟩
              · have b9 : ((k : Int) == 9) = false := by rw [beq_eq_false_iff_ne]; omega
                clear hstop hp8
                have hcc := HCC.out
                go_wp2_with fail
                all_goals
                  go_ret3
                  exact ⟨by rw [HF.out, HV.out]; exact ret3_both (by simp) (by show _ = (a : Int) + k + 1; omega), rfl⟩
              · have b0 : ((c.toNat : Int) == 0) = false := by rw [beq_eq_false_iff_ne]; omega
                have b9 : ((k : Int) == 9) = false := by rw [beq_eq_false_iff_ne]; omega
                clear hstop hp8
                have hcc := HCC.out
                go_wp2_with fail
                all_goals
                  go_ret3
                  exact ⟨by rw [HF.out, HV.out]; exact ret3_both (by simp) (by show _ = (a : Int) + k + 1; omega), rfl⟩
              · have b0 : ((c.toNat : Int) == 0) = false := by rw [beq_eq_false_iff_ne]; omega
                have b1 : ((c.toNat : Int) != 1) = false := by rw [bne_eq_false_iff_eq]; omega
                have b9 : ((k : Int) == 9) = true := by rw [beq_iff_eq]; omega
                clear hstop hp8
                have hcc := HCC.out
                go_wp2_with fail
                all_goals
                  go_ret3
                  exact ⟨by rw [HF.out, HV.out]; exact ret3_both (by simp) (by show _ = (a : Int) + k + 1; omega), rfl⟩
            · rw [Wire.scan_more hstop hlast] at hsc
              have HS := Lib.hid hsc
              have hk9 : k < 9 := by omega
              have hc128 : 128 ≤ c.toNat := by omega
              have hp := hp8 hk9
              obtain ⟨T, hT⟩ : ∃ T : Nat, T = c.toNat % 128 * P := ⟨_, rfl⟩
              have hTle : T ≤ 127 * P := by rw [hT]; exact Nat.mul_le_mul_right _ (by omega)
              rw [← hT] at hvt
              have hTw : IntKind.u64.wrap ((c.toNat : Int) % 128 * (P : Int)) = (T : Int) := by
                rw [IntKind.wrap_u64]
                have e : ((c.toNat : Int) % 128 * (P : Int)) = ((c.toNat % 128 * P : Nat) : Int) := by simp
                rw [e, ← hT]
                omega
              have HV := Lib.hid hvt
              have b0 : ((c.toNat : Int) == 0) = false := by rw [beq_eq_false_iff_ne]; omega
              have b9 : ((k : Int) == 9) = false := by rw [beq_eq_false_iff_ne]; omega
              clear hsc hstop hlast hp8 hvt hT
              have hcc := HCC.out
              go_wp2_with fail
              all_goals
                go_round
                case rel => exact ⟨k + 1, by omega, by omega, by go_num, by rw [HV.out]; go_num, by rw [HPS.out]; go_num, HS.out⟩
                case measure => simp [intOf] <;> omega
        · have hnil : (l.drop a).drop k = [] := List.drop_eq_nil_of_le (by rw [List.length_drop]; omega)
          rw [hnil, Wire.scan_nil] at hsc
          have hfin := takeU_stop' hal (by decide) hsc
          have HF := Lib.hid hfin
          clear hfin hsc hnil
          go_wp2_with fail
          go_ret3
          exact ⟨by rw [HF.out]; rfl, rfl⟩
end Go.Proofs.Ytlpkkcodmoklaaa
