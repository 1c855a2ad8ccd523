/- TimetableNeeds: for every argument. -/
import Derived.Test.YtaedelcbioiogaaTtLawsA
namespace Go.Proofs.Ytaedelcbioiogaa
set_option linter.unusedVariables false
set_option linter.unusedSimpArgs false
open Go.RowKit
set_option maxRecDepth 100000 in
set_option maxHeartbeats 8000000 in
theorem timetableNeeds_no (x : Int × ByteArray × Int × Int × Int × Int × Int × Int) (sp de : Int) (ln v : Int) (l : List Int) (A : Option Addr) (c : Nat) (w : World) (hl : l.length ≤ 9223372036854775807)
    (h : ¬ (1 ≤ ln ∧ ln ≤ 1073741824 ∧ 1 ≤ v ∧ v ≤ 10000 ∧ 1 ≤ sp ∧ sp ≤ 10000 ∧ 0 ≤ de ∧ de ≤ 5 ∧ l.length ≤ 200)) : Calls Try.prog 6 #[.agg #[.int .i64 x.1, .string x.2.1, .int .i64 x.2.2.1, .int .i64 sp, .int .i64 x.2.2.2.1, .int .i64 x.2.2.2.2.1, .int .i64 x.2.2.2.2.2.1, .int .i64 de, .int .i64 x.2.2.2.2.2.2.1, .int .i64 x.2.2.2.2.2.2.2], .int .i64 ln, .int .i64 v, .slice A l.length c] w fun e w' => e = .returned (.bool true) ∧ Below w.heap.size w w' := by
  go_enter Try.func6, Try.ntmps6
  go_wp2_with fail
  all_goals try (exfalso; omega)
  all_goals
    refine (alive48 _).mono ?_
    rintro e w1 ⟨rfl, hb⟩
    go_wp2_with fail
    go_ret
    exact ⟨rfl, bel_two ((Below.refl _ _).alloc (Nat.le_refl _) _) (Nat.le_refl _) hb⟩
/-- The number of cycles without the delay. -/
theorem need_facts {sp de ln v : Int} (h1 : 1 ≤ ln) (h2 : ln ≤ 1073741824) (h3 : 1 ≤ v) (h4 : v ≤ 10000) (h5 : 1 ≤ sp) (h6 : sp ≤ 10000) (h7 : 0 ≤ de) (h8 : de ≤ 5) :
    ∃ n : Int, needOf sp de ln v = n + de ∧ 1 ≤ n ∧ n ≤ 1073741824 ∧ ln ≤ n * (min sp v) ∧ (n - 1) * (min sp v) < ln := by
  refine ⟨(ln - 1) / (min sp v) + 1, ?_, ?_, ?_, ?_, ?_⟩
  · unfold needOf
    rw [if_neg (by omega), show min ln 1073741824 = ln by omega, show max 0 (min de 5) = de by omega]
  · have := Int.ediv_nonneg (show 0 ≤ ln - 1 by omega) (show 0 ≤ min sp v by omega)
    omega
  · have := Int.ediv_le_self (min sp v) (show 0 ≤ ln - 1 by omega)
    omega
  · have e := Int.emod_add_mul_ediv (ln - 1) (min sp v)
    have e2 := Int.emod_lt_of_pos (ln - 1) (show 0 < min sp v by omega)
    rw [Int.add_mul, Int.mul_comm ((ln - 1) / (min sp v))]
    omega
  · have e := Int.emod_add_mul_ediv (ln - 1) (min sp v)
    have e2 := Int.emod_nonneg (ln - 1) (show min sp v ≠ 0 by omega)
    rw [Int.add_sub_cancel, Int.mul_comm ((ln - 1) / (min sp v))]
    omega
/-- A sum of steps of at most m does not reach further than that many steps of m. -/
theorem sum_step {n m ln s : Int} {k : Nat} (hs : s ≤ (k : Int) * m) (hn : (n - 1) * m < ln) (hm : 0 ≤ m) (hk : (k : Int) ≤ n - 1) : s < ln := by
  have := Int.mul_le_mul_of_nonneg_right hk hm
  omega
theorem mul_bd {n m : Int} (h1 : 0 ≤ n) (h2 : n ≤ 1073741824) (h3 : 0 ≤ m) (h4 : m ≤ 10000) : 0 ≤ n * m ∧ n * m ≤ 10737418240000 := by
  refine ⟨Int.mul_nonneg h1 h3, ?_⟩
  have := Int.mul_le_mul h2 h4 h3 (by omega : (0 : Int) ≤ 1073741824)
  omega

set_option maxRecDepth 100000 in
set_option maxHeartbeats 8000000 in
theorem timetableNeeds_sp (x : Int × ByteArray × Int × Int × Int × Int × Int × Int) (sp de : Int) (ln v : Int) (l : List Int) (A : Option Addr) (c : Nat) (w : World) (hA : RdS cI w w.heap.size A l)
    (h1 : 1 ≤ ln) (h2 : ln ≤ 1073741824) (h3 : 1 ≤ v) (h4 : v ≤ 10000) (h5 : 1 ≤ sp) (h6 : sp ≤ 10000) (h7 : 0 ≤ de) (h8 : de ≤ 5) (h9 : l.length ≤ 200) (hsv : sp ≤ v) : Calls Try.prog 6 #[.agg #[.int .i64 x.1, .string x.2.1, .int .i64 x.2.2.1, .int .i64 sp, .int .i64 x.2.2.2.1, .int .i64 x.2.2.2.2.1, .int .i64 x.2.2.2.2.2.1, .int .i64 de, .int .i64 x.2.2.2.2.2.2.1, .int .i64 x.2.2.2.2.2.2.2], .int .i64 ln, .int .i64 v, .slice A l.length c] w fun e w' => e = .returned (.bool true) ∧ Below w.heap.size w w' := by
  have hP : Blk (w.alloc (.cells #[.int .i64 x.1, .string x.2.1, .int .i64 x.2.2.1, .int .i64 sp, .int .i64 x.2.2.2.1, .int .i64 x.2.2.2.2.1, .int .i64 x.2.2.2.2.2.1, .int .i64 de, .int .i64 x.2.2.2.2.2.2.1, .int .i64 x.2.2.2.2.2.2.2] 34)) w.heap.size 34 #[.int .i64 x.1, .string x.2.1, .int .i64 x.2.2.1, .int .i64 sp, .int .i64 x.2.2.2.1, .int .i64 x.2.2.2.2.1, .int .i64 x.2.2.2.2.2.1, .int .i64 de, .int .i64 x.2.2.2.2.2.2.1, .int .i64 x.2.2.2.2.2.2.2] := Blk.new _ _ _ _ rfl
  have hb0 : Below w.heap.size w (w.alloc (.cells #[.int .i64 x.1, .string x.2.1, .int .i64 x.2.2.1, .int .i64 sp, .int .i64 x.2.2.2.1, .int .i64 x.2.2.2.2.1, .int .i64 x.2.2.2.2.2.1, .int .i64 de, .int .i64 x.2.2.2.2.2.2.1, .int .i64 x.2.2.2.2.2.2.2] 34)) := (Below.refl _ _).alloc (Nat.le_refl _) _
  obtain ⟨n, hn0, hn1, hn2, hn3, hn4⟩ := need_facts h1 h2 h3 h4 h5 h6 h7 h8
  have HN := Lib.hid hn0
  clear hn0
  rw [show min sp v = sp by omega] at hn3 hn4
  have hb1 := mul_bd (n := n) (m := sp) (by omega) hn2 (by omega) (by omega)
  have hb2 := mul_bd (n := n - 1) (m := sp) (by omega) (by omega) (by omega) (by omega)
  obtain ⟨hb1, hb3⟩ := hb1
  obtain ⟨hb2, hb4⟩ := hb2
  go_enter Try.func6, Try.ntmps6
  go_upto_region 4 with (fail)
  generalize (w.alloc (.cells #[.int .i64 x.1, .string x.2.1, .int .i64 x.2.2.1, .int .i64 sp, .int .i64 x.2.2.2.1, .int .i64 x.2.2.2.2.1, .int .i64 x.2.2.2.2.2.1, .int .i64 de, .int .i64 x.2.2.2.2.2.2.1, .int .i64 x.2.2.2.2.2.2.2] 34)) = wB at *
  have hz1 := hP.lt
  have hmk : ∀ w', Below wB.heap.size wB w' → Below wB.heap.size wB w' ∧ w'.cell? ⟨w.heap.size, 0, none⟩ = some (.int .i64 x.1) ∧ w'.cell? ⟨w.heap.size, 1, none⟩ = some (.string x.2.1) ∧ w'.cell? ⟨w.heap.size, 2, none⟩ = some (.int .i64 x.2.2.1) ∧ w'.cell? ⟨w.heap.size, 3, none⟩ = some (.int .i64 sp) ∧ w'.cell? ⟨w.heap.size, 4, none⟩ = some (.int .i64 x.2.2.2.1) ∧ w'.cell? ⟨w.heap.size, 5, none⟩ = some (.int .i64 x.2.2.2.2.1) ∧ w'.cell? ⟨w.heap.size, 6, none⟩ = some (.int .i64 x.2.2.2.2.2.1) ∧ w'.cell? ⟨w.heap.size, 7, none⟩ = some (.int .i64 de) ∧ w'.cell? ⟨w.heap.size, 8, none⟩ = some (.int .i64 x.2.2.2.2.2.2.1) ∧ w'.cell? ⟨w.heap.size, 9, none⟩ = some (.int .i64 x.2.2.2.2.2.2.2) := fun w' hq => by
    have k0 := fun o => hq.cell (p := ⟨w.heap.size, o, none⟩) hz1
    exact ⟨hq, (k0 _).trans (hP.cell 0), (k0 _).trans (hP.cell 1), (k0 _).trans (hP.cell 2), (k0 _).trans (hP.cell 3), (k0 _).trans (hP.cell 4), (k0 _).trans (hP.cell 5), (k0 _).trans (hP.cell 6), (k0 _).trans (hP.cell 7), (k0 _).trans (hP.cell 8), (k0 _).trans (hP.cell 9)⟩
  have hS := hmk wB (Below.refl _ _)
  have HMK := Lib.hid hmk
  clear hmk hP
  have hwn := IntWalk.i64_in n (by omega)
  go_region_held3 (fun w' => Below wB.heap.size wB w' ∧ w'.cell? ⟨w.heap.size, 0, none⟩ = some (.int .i64 x.1) ∧ w'.cell? ⟨w.heap.size, 1, none⟩ = some (.string x.2.1) ∧ w'.cell? ⟨w.heap.size, 2, none⟩ = some (.int .i64 x.2.2.1) ∧ w'.cell? ⟨w.heap.size, 3, none⟩ = some (.int .i64 sp) ∧ w'.cell? ⟨w.heap.size, 4, none⟩ = some (.int .i64 x.2.2.2.1) ∧ w'.cell? ⟨w.heap.size, 5, none⟩ = some (.int .i64 x.2.2.2.2.1) ∧ w'.cell? ⟨w.heap.size, 6, none⟩ = some (.int .i64 x.2.2.2.2.2.1) ∧ w'.cell? ⟨w.heap.size, 7, none⟩ = some (.int .i64 de) ∧ w'.cell? ⟨w.heap.size, 8, none⟩ = some (.int .i64 x.2.2.2.2.2.2.1) ∧ w'.cell? ⟨w.heap.size, 9, none⟩ = some (.int .i64 x.2.2.2.2.2.2.2))
    (first | assumption | (refine HMK.out _ ?_; have hbq := (by assumption : Below wB.heap.size wB _ ∧ _).1; first | exact bel_then hbq hbq.size (by assumption) | (repeat' (first | (with_reducible exact Below.refl _ _) | (with_reducible assumption) | (with_reducible refine Below.drewN ?_ _) | (with_reducible refine Below.drew ?_) | (with_reducible refine Below.alloc ?_ ?_ _) | (with_reducible refine Below.setCell ?_ ?_ _) | (with_reducible exact Nat.le_refl _) | (with_reducible exact Below.size (by assumption)) | omega | (simp only [World.size_alloc, World.size_setCell, World.size_drew]; omega) | (simp; done) | (simp; omega)))))
    (first
      | (go_at_call 14; refine (need_any (Rl ln) x sp de v _ ⟨by show (-9223372036854775808 : Int) ≤ ln; omega, by show ln ≤ 9223372036854775807; omega⟩ ⟨by omega, by omega⟩ ⟨by omega, by omega⟩ ⟨by omega, by omega⟩).mono ?_; rw [show needOf sp de (Rl ln).len v = n + de from HN.out]; rintro e wq ⟨rfl, hq⟩))
  have hbq := (by assumption : Below wB.heap.size wB _ ∧ _).1
  have hzq := hbq.size
  clear hS hwn
  have hI := bel_two hb0 (Nat.le_refl _) hbq
  clear hb0 hbq
  generalize wq = w5 at *
  have hA5 := hA.below hI
  go_wp2_with fail
  go_loopw [11, 12] (fun sm i wr => ∃ (k : Nat) (t : Int), k ≤ l.length ∧ i = .int .i64 k ∧ sm = .int .i64 t ∧ 0 ≤ t ∧ t ≤ 10000 * (k : Int) ∧ t ≤ (k : Int) * sp ∧ Below w.heap.size w wr) (fun _ i _ => (l.length - intOf i).toNat)
  case atStart => exact ⟨0, 0, by omega, rfl, rfl, by omega, by omega, by simp, hI⟩
  case round =>
    clear hI hzq hA5 HMK hz1
    obtain ⟨k, t, hk, rfl, rfl, ht0, ht1, ht2, hI⟩ := hrel
    have HT2 := Lib.hid ht2
    clear ht2
    by_cases hlt : k < l.length
    · obtain ⟨b, off, rfl, hb, hmi, y0⟩ := ints_at (hA.below hI) hlt
      generalize l[k] = mv at y0 hmi
      have hkl : (k : Int) < (l.length : Int) := by omega
      have hkey : ∀ u : Int, 0 ≤ u → u ≤ sp → t + u ≤ ((k + 1 : Nat) : Int) * sp := fun u _ hu => by
        have e : ((k + 1 : Nat) : Int) * sp = (k : Int) * sp + sp := by rw [Int.natCast_add, Int.add_mul]; simp
        have := HT2.out
        omega
      have hfin : ∀ u : Int, 0 ≤ u → u ≤ sp → (k : Int) + 1 < n → t + u < ln := fun u h0 hu h => sum_step (hkey u h0 hu) hn4 (by omega) (by omega)
      have HK := Lib.hid hkey
      have HF := Lib.hid hfin
      clear hkey hfin
      have hcase : mv ≤ 0 ∨ (0 < mv ∧ mv ≤ sp) ∨ sp < mv := by omega
      rcases hcase with hc | ⟨hc, hc'⟩ | hc
      · have h0 := HF.out 0 (by omega) (by omega)
        have hk0 := HK.out 0 (by omega) (by omega)
        by_cases hkn : (k : Int) + 1 < n
        all_goals (first | (have d1 : decide (ln ≤ t) = false := by simp; have := h0 hkn; omega) | (have d1 : decide ((k : Int) + 1 < n) = false := by simp; omega))
        all_goals
          have HK0 := Lib.hid hk0
          clear h0
          go_wp2_with fail
          all_goals try (exfalso; simp_all; omega)
          all_goals
            go_roundw
            case rel => exact ⟨k + 1, t, by omega, by go_num, by simp, by omega, by omega, by have := HK0.out; omega, hI⟩
            case measure => simp [intOf] <;> omega
      · have h0 := HF.out mv (by omega) (by omega)
        have hk0 := HK.out mv (by omega) (by omega)
        by_cases hkn : (k : Int) + 1 < n
        all_goals (first | (have d1 : decide (ln ≤ t + mv) = false := by simp; have := h0 hkn; omega) | (have d1 : decide ((k : Int) + 1 < n) = false := by simp; omega))
        all_goals
          have HK0 := Lib.hid hk0
          clear h0
          go_wp2_with fail
          all_goals try (exfalso; simp_all; omega)
          all_goals
            go_roundw
            case rel => exact ⟨k + 1, t + mv, by omega, by go_num, by simp, by omega, by omega, by have := HK0.out; omega, hI⟩
            case measure => simp [intOf] <;> omega
      · have h0 := HF.out sp (by omega) (by omega)
        have hk0 := HK.out sp (by omega) (by omega)
        by_cases hkn : (k : Int) + 1 < n
        all_goals (first | (have d1 : decide (ln ≤ t + sp) = false := by simp; have := h0 hkn; omega) | (have d1 : decide ((k : Int) + 1 < n) = false := by simp; omega))
        all_goals
          have HK0 := Lib.hid hk0
          clear h0
          go_wp2_with fail
          all_goals try (exfalso; simp_all; omega)
          all_goals
            go_roundw
            case rel => exact ⟨k + 1, t + sp, by omega, by go_num, by simp, by omega, by omega, by have := HK0.out; omega, hI⟩
            case measure => simp [intOf] <;> omega
    · go_wp2_with fail
      refine (alive48 _).mono ?_
      rintro e w9 ⟨rfl, hb⟩
      go_wp2_with fail
      go_ret
      exact ⟨rfl, bel_two hI (Nat.le_refl _) hb⟩
set_option maxRecDepth 100000 in
set_option maxHeartbeats 8000000 in
theorem timetableNeeds_v (x : Int × ByteArray × Int × Int × Int × Int × Int × Int) (sp de : Int) (ln v : Int) (l : List Int) (A : Option Addr) (c : Nat) (w : World) (hA : RdS cI w w.heap.size A l)
    (h1 : 1 ≤ ln) (h2 : ln ≤ 1073741824) (h3 : 1 ≤ v) (h4 : v ≤ 10000) (h5 : 1 ≤ sp) (h6 : sp ≤ 10000) (h7 : 0 ≤ de) (h8 : de ≤ 5) (h9 : l.length ≤ 200) (hsv : v < sp) : Calls Try.prog 6 #[.agg #[.int .i64 x.1, .string x.2.1, .int .i64 x.2.2.1, .int .i64 sp, .int .i64 x.2.2.2.1, .int .i64 x.2.2.2.2.1, .int .i64 x.2.2.2.2.2.1, .int .i64 de, .int .i64 x.2.2.2.2.2.2.1, .int .i64 x.2.2.2.2.2.2.2], .int .i64 ln, .int .i64 v, .slice A l.length c] w fun e w' => e = .returned (.bool true) ∧ Below w.heap.size w w' := by
  have hP : Blk (w.alloc (.cells #[.int .i64 x.1, .string x.2.1, .int .i64 x.2.2.1, .int .i64 sp, .int .i64 x.2.2.2.1, .int .i64 x.2.2.2.2.1, .int .i64 x.2.2.2.2.2.1, .int .i64 de, .int .i64 x.2.2.2.2.2.2.1, .int .i64 x.2.2.2.2.2.2.2] 34)) w.heap.size 34 #[.int .i64 x.1, .string x.2.1, .int .i64 x.2.2.1, .int .i64 sp, .int .i64 x.2.2.2.1, .int .i64 x.2.2.2.2.1, .int .i64 x.2.2.2.2.2.1, .int .i64 de, .int .i64 x.2.2.2.2.2.2.1, .int .i64 x.2.2.2.2.2.2.2] := Blk.new _ _ _ _ rfl
  have hb0 : Below w.heap.size w (w.alloc (.cells #[.int .i64 x.1, .string x.2.1, .int .i64 x.2.2.1, .int .i64 sp, .int .i64 x.2.2.2.1, .int .i64 x.2.2.2.2.1, .int .i64 x.2.2.2.2.2.1, .int .i64 de, .int .i64 x.2.2.2.2.2.2.1, .int .i64 x.2.2.2.2.2.2.2] 34)) := (Below.refl _ _).alloc (Nat.le_refl _) _
  obtain ⟨n, hn0, hn1, hn2, hn3, hn4⟩ := need_facts h1 h2 h3 h4 h5 h6 h7 h8
  have HN := Lib.hid hn0
  clear hn0
  rw [show min sp v = v by omega] at hn3 hn4
  have hb1 := mul_bd (n := n) (m := v) (by omega) hn2 (by omega) (by omega)
  have hb2 := mul_bd (n := n - 1) (m := v) (by omega) (by omega) (by omega) (by omega)
  obtain ⟨hb1, hb3⟩ := hb1
  obtain ⟨hb2, hb4⟩ := hb2
  go_enter Try.func6, Try.ntmps6
  go_upto_region 4 with (fail)
  generalize (w.alloc (.cells #[.int .i64 x.1, .string x.2.1, .int .i64 x.2.2.1, .int .i64 sp, .int .i64 x.2.2.2.1, .int .i64 x.2.2.2.2.1, .int .i64 x.2.2.2.2.2.1, .int .i64 de, .int .i64 x.2.2.2.2.2.2.1, .int .i64 x.2.2.2.2.2.2.2] 34)) = wB at *
  have hz1 := hP.lt
  have hmk : ∀ w', Below wB.heap.size wB w' → Below wB.heap.size wB w' ∧ w'.cell? ⟨w.heap.size, 0, none⟩ = some (.int .i64 x.1) ∧ w'.cell? ⟨w.heap.size, 1, none⟩ = some (.string x.2.1) ∧ w'.cell? ⟨w.heap.size, 2, none⟩ = some (.int .i64 x.2.2.1) ∧ w'.cell? ⟨w.heap.size, 3, none⟩ = some (.int .i64 sp) ∧ w'.cell? ⟨w.heap.size, 4, none⟩ = some (.int .i64 x.2.2.2.1) ∧ w'.cell? ⟨w.heap.size, 5, none⟩ = some (.int .i64 x.2.2.2.2.1) ∧ w'.cell? ⟨w.heap.size, 6, none⟩ = some (.int .i64 x.2.2.2.2.2.1) ∧ w'.cell? ⟨w.heap.size, 7, none⟩ = some (.int .i64 de) ∧ w'.cell? ⟨w.heap.size, 8, none⟩ = some (.int .i64 x.2.2.2.2.2.2.1) ∧ w'.cell? ⟨w.heap.size, 9, none⟩ = some (.int .i64 x.2.2.2.2.2.2.2) := fun w' hq => by
    have k0 := fun o => hq.cell (p := ⟨w.heap.size, o, none⟩) hz1
    exact ⟨hq, (k0 _).trans (hP.cell 0), (k0 _).trans (hP.cell 1), (k0 _).trans (hP.cell 2), (k0 _).trans (hP.cell 3), (k0 _).trans (hP.cell 4), (k0 _).trans (hP.cell 5), (k0 _).trans (hP.cell 6), (k0 _).trans (hP.cell 7), (k0 _).trans (hP.cell 8), (k0 _).trans (hP.cell 9)⟩
  have hS := hmk wB (Below.refl _ _)
  have HMK := Lib.hid hmk
  clear hmk hP
  have hwn := IntWalk.i64_in n (by omega)
  go_region_held3 (fun w' => Below wB.heap.size wB w' ∧ w'.cell? ⟨w.heap.size, 0, none⟩ = some (.int .i64 x.1) ∧ w'.cell? ⟨w.heap.size, 1, none⟩ = some (.string x.2.1) ∧ w'.cell? ⟨w.heap.size, 2, none⟩ = some (.int .i64 x.2.2.1) ∧ w'.cell? ⟨w.heap.size, 3, none⟩ = some (.int .i64 sp) ∧ w'.cell? ⟨w.heap.size, 4, none⟩ = some (.int .i64 x.2.2.2.1) ∧ w'.cell? ⟨w.heap.size, 5, none⟩ = some (.int .i64 x.2.2.2.2.1) ∧ w'.cell? ⟨w.heap.size, 6, none⟩ = some (.int .i64 x.2.2.2.2.2.1) ∧ w'.cell? ⟨w.heap.size, 7, none⟩ = some (.int .i64 de) ∧ w'.cell? ⟨w.heap.size, 8, none⟩ = some (.int .i64 x.2.2.2.2.2.2.1) ∧ w'.cell? ⟨w.heap.size, 9, none⟩ = some (.int .i64 x.2.2.2.2.2.2.2))
    (first | assumption | (refine HMK.out _ ?_; have hbq := (by assumption : Below wB.heap.size wB _ ∧ _).1; first | exact bel_then hbq hbq.size (by assumption) | (repeat' (first | (with_reducible exact Below.refl _ _) | (with_reducible assumption) | (with_reducible refine Below.drewN ?_ _) | (with_reducible refine Below.drew ?_) | (with_reducible refine Below.alloc ?_ ?_ _) | (with_reducible refine Below.setCell ?_ ?_ _) | (with_reducible exact Nat.le_refl _) | (with_reducible exact Below.size (by assumption)) | omega | (simp only [World.size_alloc, World.size_setCell, World.size_drew]; omega) | (simp; done) | (simp; omega)))))
    (first
      | (go_at_call 14; refine (need_any (Rl ln) x sp de v _ ⟨by show (-9223372036854775808 : Int) ≤ ln; omega, by show ln ≤ 9223372036854775807; omega⟩ ⟨by omega, by omega⟩ ⟨by omega, by omega⟩ ⟨by omega, by omega⟩).mono ?_; rw [show needOf sp de (Rl ln).len v = n + de from HN.out]; rintro e wq ⟨rfl, hq⟩))
  have hbq := (by assumption : Below wB.heap.size wB _ ∧ _).1
  have hzq := hbq.size
  clear hS hwn
  have hI := bel_two hb0 (Nat.le_refl _) hbq
  clear hb0 hbq
  generalize wq = w5 at *
  have hA5 := hA.below hI
  go_wp2_with fail
  go_loopw [11, 12] (fun sm i wr => ∃ (k : Nat) (t : Int), k ≤ l.length ∧ i = .int .i64 k ∧ sm = .int .i64 t ∧ 0 ≤ t ∧ t ≤ 10000 * (k : Int) ∧ t ≤ (k : Int) * v ∧ Below w.heap.size w wr) (fun _ i _ => (l.length - intOf i).toNat)
  case atStart => exact ⟨0, 0, by omega, rfl, rfl, by omega, by omega, by simp, hI⟩
  case round =>
    clear hI hzq hA5 HMK hz1
    obtain ⟨k, t, hk, rfl, rfl, ht0, ht1, ht2, hI⟩ := hrel
    have HT2 := Lib.hid ht2
    clear ht2
    by_cases hlt : k < l.length
    · obtain ⟨b, off, rfl, hb, hmi, y0⟩ := ints_at (hA.below hI) hlt
      generalize l[k] = mv at y0 hmi
      have hkl : (k : Int) < (l.length : Int) := by omega
      have hkey : ∀ u : Int, 0 ≤ u → u ≤ v → t + u ≤ ((k + 1 : Nat) : Int) * v := fun u _ hu => by
        have e : ((k + 1 : Nat) : Int) * v = (k : Int) * v + v := by rw [Int.natCast_add, Int.add_mul]; simp
        have := HT2.out
        omega
      have hfin : ∀ u : Int, 0 ≤ u → u ≤ v → (k : Int) + 1 < n → t + u < ln := fun u h0 hu h => sum_step (hkey u h0 hu) hn4 (by omega) (by omega)
      have HK := Lib.hid hkey
      have HF := Lib.hid hfin
      clear hkey hfin
      have hcase : mv ≤ 0 ∨ (0 < mv ∧ mv ≤ v) ∨ v < mv := by omega
      rcases hcase with hc | ⟨hc, hc'⟩ | hc
      · have h0 := HF.out 0 (by omega) (by omega)
        have hk0 := HK.out 0 (by omega) (by omega)
        by_cases hkn : (k : Int) + 1 < n
        all_goals (first | (have d1 : decide (ln ≤ t) = false := by simp; have := h0 hkn; omega) | (have d1 : decide ((k : Int) + 1 < n) = false := by simp; omega))
        all_goals
          have HK0 := Lib.hid hk0
          clear h0
          go_wp2_with fail
          all_goals try (exfalso; simp_all; omega)
          all_goals
            go_roundw
            case rel => exact ⟨k + 1, t, by omega, by go_num, by simp, by omega, by omega, by have := HK0.out; omega, hI⟩
            case measure => simp [intOf] <;> omega
      · have h0 := HF.out mv (by omega) (by omega)
        have hk0 := HK.out mv (by omega) (by omega)
        by_cases hkn : (k : Int) + 1 < n
        all_goals (first | (have d1 : decide (ln ≤ t + mv) = false := by simp; have := h0 hkn; omega) | (have d1 : decide ((k : Int) + 1 < n) = false := by simp; omega))
        all_goals
          have HK0 := Lib.hid hk0
          clear h0
          go_wp2_with fail
          all_goals try (exfalso; simp_all; omega)
          all_goals
            go_roundw
            case rel => exact ⟨k + 1, t + mv, by omega, by go_num, by simp, by omega, by omega, by have := HK0.out; omega, hI⟩
            case measure => simp [intOf] <;> omega
      · have h0 := HF.out v (by omega) (by omega)
        have hk0 := HK.out v (by omega) (by omega)
        by_cases hkn : (k : Int) + 1 < n
        all_goals (first | (have d1 : decide (ln ≤ t + v) = false := by simp; have := h0 hkn; omega) | (have d1 : decide ((k : Int) + 1 < n) = false := by simp; omega))
        all_goals
          have HK0 := Lib.hid hk0
          clear h0
          go_wp2_with fail
          all_goals try (exfalso; simp_all; omega)
          all_goals
            go_roundw
            case rel => exact ⟨k + 1, t + v, by omega, by go_num, by simp, by omega, by omega, by have := HK0.out; omega, hI⟩
            case measure => simp [intOf] <;> omega
    · go_wp2_with fail
      refine (alive48 _).mono ?_
      rintro e w9 ⟨rfl, hb⟩
      go_wp2_with fail
      go_ret
      exact ⟨rfl, bel_two hI (Nat.le_refl _) hb⟩
theorem timetableNeeds_walk (x : Int × ByteArray × Int × Int × Int × Int × Int × Int) (sp de : Int) (ln v : Int) (l : List Int) (A : Option Addr) (c : Nat) (w : World) (o1 : I64n sp) (o2 : I64n de) (o3 : I64n ln) (o4 : I64n v) (hl : l.length ≤ maxLen) (hA : RdS cI w w.heap.size A l) : Calls Try.prog 6 #[.agg #[.int .i64 x.1, .string x.2.1, .int .i64 x.2.2.1, .int .i64 sp, .int .i64 x.2.2.2.1, .int .i64 x.2.2.2.2.1, .int .i64 x.2.2.2.2.2.1, .int .i64 de, .int .i64 x.2.2.2.2.2.2.1, .int .i64 x.2.2.2.2.2.2.2], .int .i64 ln, .int .i64 v, .slice A l.length c] w fun e w' => e = .returned (.bool true) ∧ Below w.heap.size w w' := by
  have q : l.length ≤ 9223372036854775807 := Nat.le_trans hl (by decide)
  by_cases h : 1 ≤ ln ∧ ln ≤ 1073741824 ∧ 1 ≤ v ∧ v ≤ 10000 ∧ 1 ≤ sp ∧ sp ≤ 10000 ∧ 0 ≤ de ∧ de ≤ 5 ∧ l.length ≤ 200
  · obtain ⟨h1, h2, h3, h4, h5, h6, h7, h8, h9⟩ := h
    by_cases hsv : sp ≤ v
    · exact timetableNeeds_sp x sp de ln v l A c w hA h1 h2 h3 h4 h5 h6 h7 h8 h9 hsv
    · exact timetableNeeds_v x sp de ln v l A c w hA h1 h2 h3 h4 h5 h6 h7 h8 h9 (by omega)
  · exact timetableNeeds_no x sp de ln v l A c w q h
end Go.Proofs.Ytaedelcbioiogaa
