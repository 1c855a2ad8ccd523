/- The walks of brakes and errors. -/
import Derived.Test.YtfmfadafpbnjoaaDoorTnWalksC
namespace Go.Proofs.YtfmfadafpbnjoaaDoor
set_option linter.unusedVariables false
set_option linter.unusedSimpArgs false
open Go.RowKit
attribute [local go_sem] bs_size bs_get bs_append bs_extract bs_toList
theorem clampB (n lo hi : Int) (h : lo ≤ hi) : lo ≤ clampF n lo hi ∧ clampF n lo hi ≤ hi := by unfold clampF; omega
set_option maxHeartbeats 1000000 in
theorem effective_any (d g : Int) (w : World) : Calls Tryd.prog 21 #[.int .i64 d, .int .i64 g] w fun e w' => e = .returned (.int .i64 (effF d g)) ∧ w = w' := by
  have h1 := clampB d 0 200 (by omega)
  have h2 := clampB g (-1000) 1000 (by omega)
  have c1 := clamp_any d 0 200 w
  have c2 := clamp_any g (-1000) 1000 w
  have HE : Hid (effF d g = max (clampF d 0 200 + (981 * clampF g (-1000) 1000) / 1000) 0) := Lib.hid rfl
  generalize clampF d 0 200 = x at *
  generalize clampF g (-1000) 1000 = y at *
  have c3 := floor_any (981 * y) w (by omega)
  have hq : -982 ≤ (981 * y) / 1000 ∧ (981 * y) / 1000 ≤ 982 := by omega
  generalize (981 * y) / 1000 = q at *
  obtain ⟨h1, h3⟩ := h1
  obtain ⟨h2, h4⟩ := h2
  obtain ⟨hq1, hq2⟩ := hq
  go_enter Tryd.func21, Tryd.ntmps21
  go_wp2_with fail
  refine c1.mono ?_
  rintro e w1 ⟨rfl, rfl⟩
  go_wp2_with fail
  refine c2.mono ?_
  rintro e w1 ⟨rfl, rfl⟩
  go_wp2_with fail
  refine c3.mono ?_
  rintro e w1 ⟨rfl, rfl⟩
  go_wp2_with fail
  all_goals (go_ret; exact ⟨ret_iT (by rw [HE.out]; try omega), rfl⟩)
set_option maxHeartbeats 1000000 in
theorem reffective_any (d g : Int) (w : World) : Calls Tryd.prog 36 #[.int .i64 d, .int .i64 g] w fun e w' => e = .returned (.int .i64 (effF d g)) ∧ w = w' := by
  have h1 := clampB d 0 200 (by omega)
  have h2 := clampB g (-1000) 1000 (by omega)
  have c1 := limited_any d 0 200 w (by omega)
  have c2 := limited_any g (-1000) 1000 w (by omega)
  have HE : Hid (effF d g = max (clampF d 0 200 + (981 * clampF g (-1000) 1000) / 1000) 0) := Lib.hid rfl
  generalize clampF d 0 200 = x at *
  generalize clampF g (-1000) 1000 = y at *
  obtain ⟨h1, h3⟩ := h1
  obtain ⟨h2, h4⟩ := h2
  have hz : -981000 ≤ 981 * y ∧ 981 * y ≤ 981000 := by omega
  obtain ⟨z, hzz⟩ : ∃ z, 981 * y = z := ⟨_, rfl⟩
  rw [hzz] at hz HE
  by_cases hn : 0 ≤ z
  · have e1 : z.tdiv 1000 = z / 1000 := Int.tdiv_eq_ediv_of_nonneg hn
    have hq : 0 ≤ z / 1000 ∧ z / 1000 ≤ 982 := by omega
    generalize z / 1000 = q at *
    obtain ⟨hq1, hq2⟩ := hq
    go_enter Tryd.func36, Tryd.ntmps36
    go_wp2_with fail
    refine c2.mono ?_
    rintro e w1 ⟨rfl, rfl⟩
    go_wp2_with fail
    refine c1.mono ?_
    rintro e w1 ⟨rfl, rfl⟩
    go_wp2_with fail
    all_goals (go_ret; exact ⟨ret_iT (by rw [HE.out]; try omega), rfl⟩)
  · obtain ⟨k, hk⟩ : ∃ k : Int, z = -k := ⟨-z, by omega⟩
    subst hk
    have hk0 : 0 < k := by omega
    have e1 : (-k).tdiv 1000 = -(k / 1000) := by rw [Int.neg_tdiv, Int.tdiv_eq_ediv_of_nonneg (by omega)]
    have e2 : (-k).tmod 1000 = -(k % 1000) := by rw [Int.neg_tmod, Int.tmod_eq_emod_of_nonneg (by omega)]
    have hq : 0 ≤ k / 1000 ∧ k / 1000 ≤ 982 := by omega
    have hl : (-k : Int) < 0 := by omega
    by_cases hm : k % 1000 = 0
    · have HQ : Hid ((-k) / 1000 = -(k / 1000)) := Lib.hid (by omega)
      have hne : (-(k % 1000) != 0) = false := by rw [hm]; rfl
      rw [HQ.out] at HE
      generalize k / 1000 = q at *
      obtain ⟨hq1, hq2⟩ := hq
      clear HQ hm
      go_enter Tryd.func36, Tryd.ntmps36
      go_wp2_with fail
      refine c2.mono ?_
      rintro e w1 ⟨rfl, rfl⟩
      go_wp2_with fail
      refine c1.mono ?_
      rintro e w1 ⟨rfl, rfl⟩
      go_wp2_with fail
      all_goals (go_ret; exact ⟨ret_iT (by rw [HE.out]; try omega), rfl⟩)
    · have HQ : Hid ((-k) / 1000 = -(k / 1000) - 1) := Lib.hid (by omega)
      have hne : (-(k % 1000) != 0) = true := by rw [bne_iff_ne]; omega
      rw [HQ.out] at HE
      generalize k / 1000 = q at *
      obtain ⟨hq1, hq2⟩ := hq
      clear HQ hm
      go_enter Tryd.func36, Tryd.ntmps36
      go_wp2_with fail
      refine c2.mono ?_
      rintro e w1 ⟨rfl, rfl⟩
      go_wp2_with fail
      refine c1.mono ?_
      rintro e w1 ⟨rfl, rfl⟩
      go_wp2_with fail
      all_goals (go_ret; exact ⟨ret_iT (by rw [HE.out]; try omega), rfl⟩)
attribute [-go_sem] run_min_int2
theorem min30 (m : Int) (W : World) (ts : Array TypeId) (t : TypeId) : (Builtin.min_ ts t #[.int .i64 m, .int .i64 1073741824]).run Tryd.prog W = .ok (.int .i64 (min m 1073741824)) W := by
  rw [run_min_int2]
  congr 2
  split <;> omega
theorem err_pos {t : Trn} {m : Int} (h : ¬ m ≤ 0) : errT t m = t.cst + (min m 1073741824 * t.rate) / 1000 := by unfold errT; rw [if_neg h]
theorem err_bounds {t : Trn} (hc : chkF t = 0) {m : Int} (h : ¬ m ≤ 0) : 0 ≤ min m 1073741824 * t.rate ∧ min m 1073741824 * t.rate ≤ 107374182400 := by
  obtain ⟨_, _, _, _, _, _, _, _, _, hr⟩ := chk_ok hc
  have h1 : 0 ≤ min m 1073741824 := by omega
  have h2 : min m 1073741824 ≤ 1073741824 := by omega
  generalize min m 1073741824 = a at *
  refine ⟨Int.mul_nonneg h1 hr.1, ?_⟩
  have := Int.mul_le_mul h2 hr.2 hr.1 (by omega)
  omega
set_option maxHeartbeats 1000000 in
theorem error_any (t : Trn) (hc : chkF t = 0) (m : Int) (w : World) (hm : I64n m) : Calls Tryd.prog 18 #[trnA t, .int .i64 m] w fun e w' => e = .returned (.int .i64 (errT t m)) ∧ Below w.heap.size w w' := by
  have hb0 : Below w.heap.size w (w.alloc (.cells (trnV t).toArray 23)) := (Below.refl _ _).alloc (Nat.le_refl _) _
  unfold trnA
  unfold I64n at hm
  by_cases h0 : m ≤ 0
  · have HE : Hid (errT t m = 0) := Lib.hid (by unfold errT; rw [if_pos h0])
    go_enter Tryd.func18, Tryd.ntmps18
    go_wp2_with fail
    go_ret
    exact ⟨ret_iT HE.out.symm, hb0⟩
  · have HE := Lib.hid (err_pos (t := t) h0)
    obtain ⟨hp1, hp2⟩ := err_bounds hc h0
    obtain ⟨_, _, _, _, _, _, _, _, hcs, hr⟩ := chk_ok hc
    obtain ⟨hcs1, hcs2⟩ := hcs
    obtain ⟨hr1, hr2⟩ := hr
    have hmin := fun W => min30 m W #[3, 3] 3
    have hm1 : 0 ≤ min m 1073741824 := by omega
    have hm2 : min m 1073741824 ≤ 1073741824 := by omega
    generalize min m 1073741824 = a at *
    have hfl := fun W => floor_any (a * t.rate) W (by omega)
    have hq : 0 ≤ (a * t.rate) / 1000 ∧ (a * t.rate) / 1000 ≤ 107374183 := by omega
    have hw1 : IntKind.i64.wrap (a * t.rate) = a * t.rate := IntWalk.i64_in _ (by omega)
    generalize (a * t.rate) / 1000 = q at *
    obtain ⟨hq1, hq2⟩ := hq
    have hw2 : IntKind.i64.wrap (t.cst + q) = t.cst + q := IntWalk.i64_in _ (by omega)
    clear hc
    go_enter Tryd.func18, Tryd.ntmps18
    go_wp2_with fail
    refine (hfl _).mono ?_
    rintro e w1 ⟨rfl, rfl⟩
    go_wp2_with fail
    go_ret
    exact ⟨ret_iT HE.out.symm, hb0⟩
set_option maxHeartbeats 1000000 in
theorem rerror_any (t : Trn) (hc : chkF t = 0) (m : Int) (w : World) (hm : I64n m) : Calls Tryd.prog 19 #[trnA t, .int .i64 m] w fun e w' => e = .returned (.int .i64 (errT t m)) ∧ Below w.heap.size w w' := by
  have hb0 : Below w.heap.size w (w.alloc (.cells (trnV t).toArray 23)) := (Below.refl _ _).alloc (Nat.le_refl _) _
  unfold trnA
  unfold I64n at hm
  by_cases h0 : m ≤ 0
  · have HE : Hid (errT t m = 0) := Lib.hid (by unfold errT; rw [if_pos h0])
    go_enter Tryd.func19, Tryd.ntmps19
    go_wp2_with fail
    go_ret
    exact ⟨ret_iT HE.out.symm, hb0⟩
  · have HE := Lib.hid (err_pos (t := t) h0)
    obtain ⟨hp1, hp2⟩ := err_bounds hc h0
    obtain ⟨_, _, _, _, _, _, _, _, hcs, hr⟩ := chk_ok hc
    obtain ⟨hcs1, hcs2⟩ := hcs
    obtain ⟨hr1, hr2⟩ := hr
    have hmin := fun W => min30 m W #[3, 3] 3
    have hm1 : 0 ≤ min m 1073741824 := by omega
    have hm2 : min m 1073741824 ≤ 1073741824 := by omega
    generalize min m 1073741824 = a at *
    have htd : (a * t.rate).tdiv 1000 = (a * t.rate) / 1000 := Int.tdiv_eq_ediv_of_nonneg hp1
    have hq : 0 ≤ (a * t.rate) / 1000 ∧ (a * t.rate) / 1000 ≤ 107374183 := by omega
    have hw1 : IntKind.i64.wrap (a * t.rate) = a * t.rate := IntWalk.i64_in _ (by omega)
    obtain ⟨hq1, hq2⟩ := hq
    have hw2 : IntKind.i64.wrap (t.cst + (a * t.rate) / 1000) = t.cst + (a * t.rate) / 1000 := IntWalk.i64_in _ (by omega)
    clear hc
    go_enter Tryd.func19, Tryd.ntmps19
    go_wp2_with fail
    go_ret
    exact ⟨ret_iT (by rw [HE.out]), hb0⟩
end Go.Proofs.YtfmfadafpbnjoaaDoor
