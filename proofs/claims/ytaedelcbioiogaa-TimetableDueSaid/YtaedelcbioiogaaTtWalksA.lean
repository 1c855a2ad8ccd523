/- The walks of the small functions on timetables. -/
import Derived.Test.YtaedelcbioiogaaTtCod
import Derived.Deep.QuietTactic
import Derived.BigQuiet
import Derived.Outline
import Derived.Handy
import Derived.IntWalk
namespace Go.Proofs.Ytaedelcbioiogaa
set_option linter.unusedVariables false
set_option linter.unusedSimpArgs false
open Go.RowKit
theorem ret_i2 {a b : Int} (h : a = b) : Ending.returned (.tuple #[.int .i64 a, .int .i64 0]) = .returned (.tuple #[.int .i64 b, .int .i64 0]) := by rw [h]
theorem ret_b {a b : Bool} (h : a = b) : Ending.returned (.bool a) = .returned (.bool b) := by rw [h]
theorem follows_any (a b : Rte) (w : World) : Calls Try.prog 22 #[.agg #[.string a.nm, .int .i64 a.entry, .int .i64 a.exit, .slice a.s3.1 a.s3.2.1 a.s3.2.2, .slice a.s4.1 a.s4.2.1 a.s4.2.2, .slice a.s5.1 a.s5.2.1 a.s5.2.2, .int .i64 a.appr, .int .i64 a.len, .slice a.s8.1 a.s8.2.1 a.s8.2.2, .slice a.s9.1 a.s9.2.1 a.s9.2.2, .slice a.s10.1 a.s10.2.1 a.s10.2.2, .slice a.s11.1 a.s11.2.1 a.s11.2.2, .slice a.s12.1 a.s12.2.1 a.s12.2.2, .slice a.s13.1 a.s13.2.1 a.s13.2.2], .agg #[.string b.nm, .int .i64 b.entry, .int .i64 b.exit, .slice b.s3.1 b.s3.2.1 b.s3.2.2, .slice b.s4.1 b.s4.2.1 b.s4.2.2, .slice b.s5.1 b.s5.2.1 b.s5.2.2, .int .i64 b.appr, .int .i64 b.len, .slice b.s8.1 b.s8.2.1 b.s8.2.2, .slice b.s9.1 b.s9.2.1 b.s9.2.2, .slice b.s10.1 b.s10.2.1 b.s10.2.2, .slice b.s11.1 b.s11.2.1 b.s11.2.2, .slice b.s12.1 b.s12.2.1 b.s12.2.2, .slice b.s13.1 b.s13.2.1 b.s13.2.2]] w fun e w' => e = .returned (.bool (folR a b)) ∧ Below w.heap.size w w' := by
  go_enter Try.func22, Try.ntmps22
  go_wp2_with fail
  all_goals (go_ret; refine ⟨?_, ?_⟩; (focus (first | rfl | (refine ret_b ?_; first | rfl | (rw [Bool.eq_iff_iff]; first | (simp [folR, and_assoc, *]; done) | (simp_all [folR, and_assoc]; done) | (simp_all [folR, and_assoc]; omega))))); (focus (repeat' (first | (with_reducible exact Below.refl _ _) | (with_reducible assumption) | (with_reducible refine Below.drewN ?_ _) | (with_reducible refine Below.drew ?_) | (with_reducible refine Below.alloc ?_ ?_ _) | (with_reducible refine Below.setCell ?_ ?_ _) | (with_reducible exact Nat.le_refl _) | (with_reducible exact Below.size (by assumption)) | omega | (simp only [World.size_alloc, World.size_setCell, World.size_drew]; omega) | (simp; done) | (simp; omega)))))
theorem rFollows_any (a b : Rte) (w : World) : Calls Try.prog 24 #[.agg #[.string a.nm, .int .i64 a.entry, .int .i64 a.exit, .slice a.s3.1 a.s3.2.1 a.s3.2.2, .slice a.s4.1 a.s4.2.1 a.s4.2.2, .slice a.s5.1 a.s5.2.1 a.s5.2.2, .int .i64 a.appr, .int .i64 a.len, .slice a.s8.1 a.s8.2.1 a.s8.2.2, .slice a.s9.1 a.s9.2.1 a.s9.2.2, .slice a.s10.1 a.s10.2.1 a.s10.2.2, .slice a.s11.1 a.s11.2.1 a.s11.2.2, .slice a.s12.1 a.s12.2.1 a.s12.2.2, .slice a.s13.1 a.s13.2.1 a.s13.2.2], .agg #[.string b.nm, .int .i64 b.entry, .int .i64 b.exit, .slice b.s3.1 b.s3.2.1 b.s3.2.2, .slice b.s4.1 b.s4.2.1 b.s4.2.2, .slice b.s5.1 b.s5.2.1 b.s5.2.2, .int .i64 b.appr, .int .i64 b.len, .slice b.s8.1 b.s8.2.1 b.s8.2.2, .slice b.s9.1 b.s9.2.1 b.s9.2.2, .slice b.s10.1 b.s10.2.1 b.s10.2.2, .slice b.s11.1 b.s11.2.1 b.s11.2.2, .slice b.s12.1 b.s12.2.1 b.s12.2.2, .slice b.s13.1 b.s13.2.1 b.s13.2.2]] w fun e w' => e = .returned (.bool (folR a b)) ∧ Below w.heap.size w w' := by
  go_enter Try.func24, Try.ntmps24
  go_wp2_with fail
  all_goals (go_ret; refine ⟨?_, ?_⟩; (focus (first | rfl | (refine ret_b ?_; first | rfl | (rw [Bool.eq_iff_iff]; first | (simp [folR, and_assoc, *]; done) | (simp_all [folR, and_assoc]; done) | (simp_all [folR, and_assoc]; omega))))); (focus (repeat' (first | (with_reducible exact Below.refl _ _) | (with_reducible assumption) | (with_reducible refine Below.drewN ?_ _) | (with_reducible refine Below.drew ?_) | (with_reducible refine Below.alloc ?_ ?_ _) | (with_reducible refine Below.setCell ?_ ?_ _) | (with_reducible exact Nat.le_refl _) | (with_reducible exact Below.size (by assumption)) | omega | (simp only [World.size_alloc, World.size_setCell, World.size_drew]; omega) | (simp; done) | (simp; omega)))))
theorem divisible_any (a b : Int) (w : World) (ha : 1 ≤ a) (hb : 1 ≤ b) : Calls Try.prog 30 #[.int .i64 a, .int .i64 b] w fun e w' => e = .returned (.int .i64 0) ∧ w = w' := by
  go_enter Try.func30, Try.ntmps30
  go_wp2_with fail
  all_goals (go_ret; exact ⟨rfl, rfl⟩)
theorem clamp_any (n : Int) (w : World) : Calls Try.prog 28 #[.int .i64 n, .int .i64 0, .int .i64 5] w fun e w' => e = .returned (.int .i64 (max 0 (min n 5))) ∧ w = w' := by
  go_enter Try.func28, Try.ntmps28
  go_wp2_with fail
  all_goals (go_ret; exact ⟨ret_int (by omega), rfl⟩)
theorem ceil_any (a b : Int) (w : World) (ha : 1 ≤ a) (hb : 1 ≤ b) (ha2 : a ≤ 1073741824) (hb2 : b ≤ 9223372036854775807) : Calls Try.prog 27 #[.int .i64 a, .int .i64 b] w fun e w' => e = .returned (.tuple #[.int .i64 ((a - 1) / b + 1), .int .i64 0]) ∧ w = w' := by
  have hq1 : 0 ≤ a / b := Int.ediv_nonneg (by omega) (by omega)
  have hq2 : a / b ≤ a := Int.ediv_le_self _ (by omega)
  have HC := Lib.hid (ceil_eq ha hb)
  have hd : (decide (a < 0) == decide (b < 0)) = true := by
    rw [decide_eq_false (show ¬ a < 0 by omega), decide_eq_false (show ¬ b < 0 by omega)]; rfl
  go_enter Try.func27, Try.ntmps27
  go_wp2_with (go_at_call 30; refine (divisible_any a b _ ha hb).mono ?_; rintro e w' ⟨rfl, rfl⟩)
  all_goals (go_ret2; refine ⟨ret_i2 ?_, rfl⟩; rw [HC.out]; simp_all)
theorem ceil_q (a b : Int) (w : World) (ha : 1 ≤ a) (hb : 1 ≤ b) (ha2 : a ≤ 1073741824) (hb2 : b ≤ 9223372036854775807) : Calls Try.prog 27 #[.int .i64 a, .int .i64 b] w fun e w' => ∃ q : Int, e = .returned (.tuple #[.int .i64 q, .int .i64 0]) ∧ w = w' ∧ 1 ≤ q ∧ q ≤ 1073741824 ∧ Hid (q = (a - 1) / b + 1) :=
  (ceil_any a b w ha hb ha2 hb2).mono fun _ _ ⟨h, hw⟩ => ⟨_, h, hw, by have := Int.ediv_nonneg (show 0 ≤ a - 1 by omega) (show 0 ≤ b by omega); omega, by have := Int.ediv_le_self b (show 0 ≤ a - 1 by omega); omega, Lib.hid rfl⟩
theorem clamp_q (n : Int) (w : World) : Calls Try.prog 28 #[.int .i64 n, .int .i64 0, .int .i64 5] w fun e w' => ∃ q : Int, e = .returned (.int .i64 q) ∧ w = w' ∧ 0 ≤ q ∧ q ≤ 5 ∧ Hid (q = max 0 (min n 5)) :=
  (clamp_any n w).mono fun _ _ ⟨h, hw⟩ => ⟨_, h, hw, by omega, by omega, Lib.hid rfl⟩
set_option maxHeartbeats 2000000 in
theorem need_any (r : Rte) (x : Int × ByteArray × Int × Int × Int × Int × Int × Int) (sp de v : Int) (w : World) (h1 : I64n r.len) (h2 : I64n sp) (h3 : I64n v) (h4 : I64n de) :
    Calls Try.prog 14 #[.agg #[.int .i64 x.1, .string x.2.1, .int .i64 x.2.2.1, .int .i64 sp, .int .i64 x.2.2.2.1, .int .i64 x.2.2.2.2.1, .int .i64 x.2.2.2.2.2.1, .int .i64 de, .int .i64 x.2.2.2.2.2.2.1, .int .i64 x.2.2.2.2.2.2.2], .agg #[.string r.nm, .int .i64 r.entry, .int .i64 r.exit, .slice r.s3.1 r.s3.2.1 r.s3.2.2, .slice r.s4.1 r.s4.2.1 r.s4.2.2, .slice r.s5.1 r.s5.2.1 r.s5.2.2, .int .i64 r.appr, .int .i64 r.len, .slice r.s8.1 r.s8.2.1 r.s8.2.2, .slice r.s9.1 r.s9.2.1 r.s9.2.2, .slice r.s10.1 r.s10.2.1 r.s10.2.2, .slice r.s11.1 r.s11.2.1 r.s11.2.2, .slice r.s12.1 r.s12.2.1 r.s12.2.2, .slice r.s13.1 r.s13.2.1 r.s13.2.2], .int .i64 v] w fun e w' => e = .returned (.int .i64 (needOf sp de r.len v)) ∧ Below w.heap.size w w' := by
  unfold I64n at h1 h2 h3 h4
  by_cases hl : r.len < 1 ∨ sp < 1 ∨ v < 1
  · have hn : needOf sp de r.len v = 0 := by unfold needOf; rw [if_pos (by omega)]
    have HN := Lib.hid hn
    clear hn
    go_enter Try.func14, Try.ntmps14
    go_wp2_with fail
    all_goals try (exfalso; omega)
    all_goals (go_ret; exact ⟨by rw [HN.out]; rfl, by (repeat' (first | (with_reducible exact Below.refl _ _) | (with_reducible assumption) | (with_reducible refine Below.drewN ?_ _) | (with_reducible refine Below.drew ?_) | (with_reducible refine Below.alloc ?_ ?_ _) | (with_reducible refine Below.setCell ?_ ?_ _) | (with_reducible exact Nat.le_refl _) | (with_reducible exact Below.size (by assumption)) | omega | (simp only [World.size_alloc, World.size_setCell, World.size_drew]; omega) | (simp; done) | (simp; omega)))⟩)
  · have hn : needOf sp de r.len v = (min r.len 1073741824 - 1) / (min sp v) + 1 + max 0 (min de 5) := by unfold needOf; rw [if_neg (by omega)]
    have HN := Lib.hid hn
    clear hn
    have l1 : 1 ≤ r.len := by omega
    have l2 : 1 ≤ sp := by omega
    have l3 : 1 ≤ v := by omega
    clear hl
    go_enter Try.func14, Try.ntmps14
    go_wp2_with fail
    all_goals
      refine (ceil_q _ _ _ (by omega) (by omega) (by omega) (by omega)).mono ?_
      rintro e w' ⟨q, rfl, rfl, q1, q2, HQ⟩
      go_wp2_with fail
      refine (clamp_q _ _).mono ?_
      rintro e w' ⟨c, rfl, rfl, c1, c2, HC⟩
      go_wp2_with fail
      go_ret
      refine ⟨?_, by (repeat' (first | (with_reducible exact Below.refl _ _) | (with_reducible assumption) | (with_reducible refine Below.drewN ?_ _) | (with_reducible refine Below.drew ?_) | (with_reducible refine Below.alloc ?_ ?_ _) | (with_reducible refine Below.setCell ?_ ?_ _) | (with_reducible exact Nat.le_refl _) | (with_reducible exact Below.size (by assumption)) | omega | (simp only [World.size_alloc, World.size_setCell, World.size_drew]; omega) | (simp; done) | (simp; omega)))⟩
      rw [HN.out]
      refine ret_int ?_
      have e1 := HQ.out
      have e2 := HC.out
      rw [e1, e2]
      congr 3
      all_goals (first | rfl | omega | (congr 1; omega))
end Go.Proofs.Ytaedelcbioiogaa
