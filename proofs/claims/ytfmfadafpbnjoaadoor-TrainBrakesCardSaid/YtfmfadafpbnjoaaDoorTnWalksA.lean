/- The walks of the small functions on trains: numbers in ranges, quotients, brakes, errors. -/
import Derived.Test.YtfmfadafpbnjoaaDoorTnPlain
import Derived.Test.YtfmfadafpbnjoaaDoorWdWalksD
import Derived.Deep.QuietTactic
import Derived.BigQuiet
namespace Go.Proofs.YtfmfadafpbnjoaaDoor
set_option linter.unusedVariables false
set_option linter.unusedSimpArgs false
open Go.RowKit
attribute [local go_sem] bs_size bs_get bs_append bs_extract bs_toList
theorem ret_iT {a b : Int} (h : a = b) : Ending.returned (.int .i64 a) = .returned (.int .i64 b) := by rw [h]
theorem clamp_any (n lo hi : Int) (w : World) : Calls Tryd.prog 39 #[.int .i64 n, .int .i64 lo, .int .i64 hi] w fun e w' => e = .returned (.int .i64 (clampF n lo hi)) ∧ w = w' := by
  go_enter Tryd.func39, Tryd.ntmps39
  go_wp2
  all_goals (go_ret; exact ⟨ret_iT (by unfold clampF; omega), rfl⟩)
theorem limited_any (n lo hi : Int) (w : World) (h : lo ≤ hi) : Calls Tryd.prog 55 #[.int .i64 n, .int .i64 lo, .int .i64 hi] w fun e w' => e = .returned (.int .i64 (clampF n lo hi)) ∧ w = w' := by
  go_enter Tryd.func55, Tryd.ntmps55
  go_wp2
  all_goals (go_ret; exact ⟨ret_iT (by unfold clampF; omega), rfl⟩)
theorem in_any (n lo hi : Int) (w : World) : Calls Tryd.prog 30 #[.int .i64 n, .int .i64 lo, .int .i64 hi] w fun e w' => e = .returned (.bool (inB n lo hi)) ∧ w = w' := by
  go_enter Tryd.func30, Tryd.ntmps30
  go_wp2
  all_goals (go_ret; refine ⟨ret_b ?_, rfl⟩; unfold inB; rw [Bool.eq_iff_iff]; simp only [Bool.and_eq_true, decide_eq_true_eq, Bool.false_eq_true, true_iff, false_iff]; omega)
theorem coordinate_any (n : Int) (w : World) : Calls Tryd.prog 81 #[.int .i64 n] w fun e w' => e = .returned (.bool (inB n (-1073741824) 1073741824)) ∧ w = w' := by
  go_enter Tryd.func81, Tryd.ntmps81
  go_wp2
  all_goals (go_ret; refine ⟨ret_b ?_, rfl⟩; unfold inB; rw [Bool.eq_iff_iff]; simp only [Bool.and_eq_true, decide_eq_true_eq, Bool.false_eq_true, true_iff, false_iff]; omega)
theorem divisible_any (a : Int) (w : World) : Calls Tryd.prog 57 #[.int .i64 a, .int .i64 1000] w fun e w' => e = .returned (.int .i64 0) ∧ w = w' := by
  go_enter Tryd.func57, Tryd.ntmps57
  go_wp2
  all_goals (go_ret; exact ⟨rfl, rfl⟩)
theorem floor_any (a : Int) (w : World) (h : -1000000000000 ≤ a ∧ a ≤ 1000000000000) : Calls Tryd.prog 38 #[.int .i64 a, .int .i64 1000] w fun e w' => e = .returned (.tuple #[.int .i64 (a / 1000), .int .i64 0]) ∧ w = w' := by
  by_cases hn : 0 ≤ a
  · have e1 : a.tdiv 1000 = a / 1000 := Int.tdiv_eq_ediv_of_nonneg hn
    have e2 : a.tmod 1000 = a % 1000 := Int.tmod_eq_emod_of_nonneg hn
    go_enter Tryd.func38, Tryd.ntmps38
    go_wp2_with fail
    refine (divisible_any a w).mono ?_
    rintro e w1 ⟨rfl, rfl⟩
    go_wp2_with fail
    all_goals (go_ret2; exact ⟨rfl, rfl⟩)
  · obtain ⟨k, hk⟩ : ∃ k : Int, a = -k := ⟨-a, by omega⟩
    subst hk
    have hk0 : 0 < k := by omega
    have e1 : (-k).tdiv 1000 = -(k / 1000) := by rw [Int.neg_tdiv, Int.tdiv_eq_ediv_of_nonneg (by omega)]
    have e2 : (-k).tmod 1000 = -(k % 1000) := by rw [Int.neg_tmod, Int.tmod_eq_emod_of_nonneg (by omega)]
    have hl : (-k : Int) < 0 := by omega
    by_cases hm : k % 1000 = 0
    · have hq : (-k) / 1000 = -(k / 1000) := by omega
      have HQ := Lib.hid hq
      have hne : (-(k % 1000) != 0) = false := by rw [hm]; rfl
      clear hq hm
      go_enter Tryd.func38, Tryd.ntmps38
      go_wp2_with fail
      refine (divisible_any _ w).mono ?_
      rintro e w1 ⟨rfl, rfl⟩
      go_wp2_with fail
      all_goals (go_ret2; exact ⟨by rw [HQ.out]; rfl, rfl⟩)
    · have hq : (-k) / 1000 = -(k / 1000) - 1 := by omega
      have HQ := Lib.hid hq
      have hne : (-(k % 1000) != 0) = true := by rw [bne_iff_ne]; omega
      clear hq hm
      go_enter Tryd.func38, Tryd.ntmps38
      go_wp2_with fail
      refine (divisible_any _ w).mono ?_
      rintro e w1 ⟨rfl, rfl⟩
      go_wp2_with fail
      all_goals (go_ret2; exact ⟨by rw [HQ.out]; rfl, rfl⟩)
end Go.Proofs.YtfmfadafpbnjoaaDoor
