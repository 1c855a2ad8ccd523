/- The walks of pointsRight and settingsRight. -/
import Derived.Test.YtlblfblkallnhaaGreatDoorTbChkA
import Derived.Deep.RegionHeld3
import Derived.Deep.Cut
import Derived.IntWalk
namespace Go.Proofs.YtlblfblkallnhaaGreatDoor
set_option linter.unusedVariables false
set_option linter.unusedSimpArgs false
open Go.RowKit
attribute [local go_sem] bs_size bs_get bs_append bs_extract bs_toList
attribute [-go_sem] run_equalIn_agg
theorem range_no {n k : Nat} {f : Nat → Bool} (hk : k < n) (h : f k = false) : (List.range n).all f = false := by
  rw [Bool.eq_false_iff]
  intro h2
  rw [List.all_eq_true.1 h2 k (List.mem_range.2 hk)] at h
  cases h
theorem range_yes {n : Nat} {f : Nat → Bool} (h : ∀ j, j < n → f j = true) : (List.range n).all f = true := List.all_eq_true.2 fun j hj => h j (List.mem_range.1 hj)
theorem upto_succ {f : Nat → Bool} {k : Nat} (h : ∀ j, j < k → f j = true) (h2 : f k = true) : ∀ j, j < k + 1 → f j = true := fun j hj => by
  by_cases e : j = k
  · exact e ▸ h2
  · exact h j (by omega)
theorem getD_at {α : Type} {l : List α} {k : Nat} (h : k < l.length) (z : α) : l.getD k z = l[k] := by simp [List.getD, List.getElem?_eq_getElem h]
theorem pt_no1 {t : Tab} {k : Nat} {q : Int} (h1 : t.pts.getD k 0 = q) (h : q < 0) : ptB t k = false := by unfold ptB; rw [h1, decide_eq_false (by omega)]; rfl
theorem pt_no2 {t : Tab} {k : Nat} {q p : Int} (h1 : t.pts.getD (k + 1) 0 = q) (h2 : t.pts.getD k 0 = p) (h : q ≤ p) : ptB t (k + 1) = false := by
  unfold ptB
  rw [h1, Nat.add_sub_cancel, h2, decide_eq_false (show ¬ k + 1 = 0 by omega), decide_eq_false (show ¬ p < q by omega)]; simp
theorem pt_no3 {t : Tab} {k : Nat} {m : Int} (h1 : t.homes.getD k 0 = m) (h : inB m 0 (t.nsec - 1) = false) : ptB t k = false := by unfold ptB; rw [h1, h]; simp
theorem pt_yes0 {t : Tab} {q m : Int} (h1 : t.pts.getD 0 0 = q) (h2 : t.homes.getD 0 0 = m) (h3 : ¬ q < 0) (h : inB m 0 (t.nsec - 1) = true) : ptB t 0 = true := by unfold ptB; rw [h1, h2, h, decide_eq_true (show 0 ≤ q by omega)]; rfl
theorem pt_yes1 {t : Tab} {k : Nat} {q p m : Int} (h1 : t.pts.getD (k + 1) 0 = q) (h2 : t.pts.getD k 0 = p) (h3 : t.homes.getD (k + 1) 0 = m) (h4 : ¬ q < 0) (h5 : ¬ q ≤ p) (h : inB m 0 (t.nsec - 1) = true) : ptB t (k + 1) = true := by
  unfold ptB
  rw [h1, Nat.add_sub_cancel, h2, h3, h, decide_eq_true (show 0 ≤ q by omega), decide_eq_true (show p < q by omega)]; simp
set_option maxRecDepth 100000 in
set_option maxHeartbeats 8000000 in
theorem pointsRight_any (v : TabV) (w : World) (hr : TvR w v) (hs : v.t.nsec ≤ 1000) : Calls Tryz.prog 34 #[tvA v] w fun e w' => e = .returned (.bool (ptsB v.t)) ∧ Below w.heap.size w w' := by
  have hbx := Bx.new hr
  have h1 := hr.n2.1
  have h2 := hr.n3.1
  unfold maxLen at h1 h2
  by_cases hl : v.t.homes.length = v.t.pts.length
  case neg =>
    have HX : Hid (ptsB v.t = false) := Lib.hid (by unfold ptsB; rw [decide_eq_false hl]; rfl)
    have hlb : ((v.t.homes.length : Int) != (v.t.pts.length : Int)) = true := by simp; omega
    have x1 := hbx.x1
    have x2 := hbx.x2
    clear hl
    unfold tvA
    go_enter Tryz.func34, Tryz.ntmps34
    go_wp2_with fail
    go_ret
    exact ⟨ret_b HX.out.symm, hbx.bel⟩
  have HY : Hid (∀ k, k < v.t.pts.length → ptB v.t k = false → ptsB v.t = false) := Lib.hid fun k hk h => by unfold ptsB; rw [range_no hk h, Bool.and_false]
  have HZ : Hid ((∀ k, k < v.t.pts.length → ptB v.t k = true) → ptsB v.t = true) := Lib.hid fun h => by unfold ptsB; rw [range_yes h, decide_eq_true hl]; rfl
  have hlb : ((v.t.homes.length : Int) != (v.t.pts.length : Int)) = false := by simp; omega
  have HL := Lib.hid hl
  have x1 := hbx.x1
  have x2 := hbx.x2
  clear hl
  unfold tvA
  go_enter Tryz.func34, Tryz.ntmps34
  go_wp2_with fail
  clear x1 x2
  go_loopw [15] (fun n wr => ∃ k : Nat, k ≤ v.t.pts.length ∧ n = .int .i64 k ∧ Bx w wr v ∧ Hid (∀ j, j < k → ptB v.t j = true)) (fun n _ => v.t.pts.length - (intOf n).toNat)
  case atStart => exact ⟨0, Nat.zero_le _, rfl, hbx, Lib.hid (fun j hj => absurd hj (Nat.not_lt_zero _))⟩
  case round =>
    obtain ⟨k, hk, rfl, hb, HK⟩ := hrel
    clear hbx
    by_cases hlt : k < v.t.pts.length
    · have hki : (k : Int) < (v.t.pts.length : Int) := by omega
      have hlh : k < v.t.homes.length := by have := HL.out; omega
      have hkh : (k : Int) < (v.t.homes.length : Int) := by omega
      obtain ⟨b, off, hA, lb, ho, y0⟩ := hb.rd.r2.elI hlt
      obtain ⟨b2, off2, hA2, lb2, ho2, z0⟩ := hb.rd.r3.elI hlh
      have x1 := hb.x1
      have x2 := hb.x2
      have x3 := hb.x3
      have HB := hb.bel
      have HNO := Lib.hid (HY.out k hlt)
      have HGQ := Lib.hid (getD_at hlt (0 : Int))
      have HGM := Lib.hid (getD_at hlh (0 : Int))
      rw [hA2] at x2
      by_cases hk0 : k = 0
      · have hz0' : ¬ (0 : Int) < (k : Int) := by omega
        have hz0n : ¬ 0 < k := by omega
        have hz0e : (decide (0 < (k : Int))) = false := by simp; omega
        clear hA2
        rw [hA] at x1 ⊢
        clear hA
        generalize v.t.pts[k] = q at *
        generalize v.t.homes[k] = m at *
        have HK0 := Lib.hid hk0
        clear hk0
        by_cases c1 : q < 0
        · have HX := Lib.hid (HNO.out (pt_no1 HGQ.out c1))
          clear HNO HGQ HGM HK
          go_wp2_with fail
          (refine wp_region_quiet_lit (by kernel_rfl) (by kernel_rfl) ?_; (repeat (any_goals (first | go_big_quiet_step ((first | (go_at_call 33; exact Calls.quiet_of_same (twithinQ _ _ _ (by omega))))) | quiet_step ((first | (go_at_call 33; exact Calls.quiet_of_same (twithinQ _ _ _ (by omega))))) | (refine wpQuiet_step (fun K hK => ?_); go_simp; split <;> (refine hK _ ?_; clear hK K))))); all_goals (refine wpQuiet_nil ?_; intro _ hw'; obtain ⟨nq, hw''⟩ := hw'; subst hw''))
          all_goals (go_wp2_with fail)
          all_goals (go_ret; exact ⟨ret_b HX.out.symm, by (repeat' (first | (with_reducible exact Below.refl _ _) | (with_reducible assumption) | (with_reducible refine Below.drewN ?_ _) | (with_reducible refine Below.drew ?_) | (with_reducible refine Below.alloc ?_ ?_ _) | (with_reducible refine Below.setCell ?_ ?_ _) | (with_reducible exact Nat.le_refl _) | (with_reducible exact Below.size (by assumption)) | omega | (simp only [World.size_alloc, World.size_setCell, World.size_drew]; omega) | (simp; done) | (simp; omega)))⟩)
        · cases c3 : inB m 0 (v.t.nsec - 1) with
          | false =>
            have HX := Lib.hid (HNO.out (pt_no3 HGM.out c3))
            clear HNO HGQ HGM HK
            go_wp2_with fail
            (refine wp_region_quiet_lit (by kernel_rfl) (by kernel_rfl) ?_; (repeat (any_goals (first | go_big_quiet_step ((first | (go_at_call 33; exact Calls.quiet_of_same (twithinQ _ _ _ (by omega))))) | quiet_step ((first | (go_at_call 33; exact Calls.quiet_of_same (twithinQ _ _ _ (by omega))))) | (refine wpQuiet_step (fun K hK => ?_); go_simp; split <;> (refine hK _ ?_; clear hK K))))); all_goals (refine wpQuiet_nil ?_; intro _ hw'; obtain ⟨nq, hw''⟩ := hw'; subst hw''))
            all_goals (go_wp2_with fail)
            all_goals (go_ret; exact ⟨ret_b HX.out.symm, by (repeat' (first | (with_reducible exact Below.refl _ _) | (with_reducible assumption) | (with_reducible refine Below.drewN ?_ _) | (with_reducible refine Below.drew ?_) | (with_reducible refine Below.alloc ?_ ?_ _) | (with_reducible refine Below.setCell ?_ ?_ _) | (with_reducible exact Nat.le_refl _) | (with_reducible exact Below.size (by assumption)) | omega | (simp only [World.size_alloc, World.size_setCell, World.size_drew]; omega) | (simp; done) | (simp; omega)))⟩)
          | true =>
            have HX := Lib.hid (upto_succ HK.out (by have e := HK0.out; subst e; exact pt_yes0 HGQ.out HGM.out c1 c3))
            clear HNO HGQ HGM HK
            go_wp2_with fail
            (refine wp_region_quiet_lit (by kernel_rfl) (by kernel_rfl) ?_; (repeat (any_goals (first | go_big_quiet_step ((first | (go_at_call 33; exact Calls.quiet_of_same (twithinQ _ _ _ (by omega))))) | quiet_step ((first | (go_at_call 33; exact Calls.quiet_of_same (twithinQ _ _ _ (by omega))))) | (refine wpQuiet_step (fun K hK => ?_); go_simp; split <;> (refine hK _ ?_; clear hK K))))); all_goals (refine wpQuiet_nil ?_; intro _ hw'; obtain ⟨nq, hw''⟩ := hw'; subst hw''))
            all_goals (go_wp2_with fail)
            all_goals go_roundw
            case rel => exact ⟨k + 1, by omega, by go_num, hb.now (Below.drewN (Below.refl _ _) _), HX⟩
            case measure => simp [intOf]; omega
      · obtain ⟨j, hj⟩ : ∃ j, k = j + 1 := ⟨k - 1, by omega⟩
        have hz0' : (0 : Int) < (k : Int) := by omega
        have hltp : j < v.t.pts.length := by omega
        have hkp : (j : Int) < (v.t.pts.length : Int) := by omega
        obtain ⟨b', off', hA', _, ho', u0⟩ := hb.rd.r2.elI hltp
        obtain ⟨rfl, rfl⟩ : b = b' ∧ off = off' := by rw [hA] at hA'; simp only [Option.some.injEq, Addr.mk.injEq] at hA'; exact ⟨hA'.1, hA'.2.1⟩
        have HGP := Lib.hid (getD_at hltp (0 : Int))
        rw [show off + j = off + (k - 1) by omega] at u0
        have hwk : IntKind.i64.wrap ((k : Int) - 1) = (k : Int) - 1 := IntWalk.i64_in _ (by omega)
        have HJ := Lib.hid hj
        clear hA2 hk0
        rw [hA] at x1 ⊢
        clear hA hA' ho' hj
        generalize v.t.pts[k] = q at *
        generalize v.t.pts[j] = p at *
        generalize v.t.homes[k] = m at *
        by_cases c1 : q < 0
        · have HX := Lib.hid (HNO.out (pt_no1 HGQ.out c1))
          clear HNO HGQ HGM HK
          go_wp2_with fail
          (refine wp_region_quiet_lit (by kernel_rfl) (by kernel_rfl) ?_; (repeat (any_goals (first | go_big_quiet_step ((first | (go_at_call 33; exact Calls.quiet_of_same (twithinQ _ _ _ (by omega))))) | quiet_step ((first | (go_at_call 33; exact Calls.quiet_of_same (twithinQ _ _ _ (by omega))))) | (refine wpQuiet_step (fun K hK => ?_); go_simp; split <;> (refine hK _ ?_; clear hK K))))); all_goals (refine wpQuiet_nil ?_; intro _ hw'; obtain ⟨nq, hw''⟩ := hw'; subst hw''))
          all_goals (go_wp2_with fail)
          all_goals (go_ret; exact ⟨ret_b HX.out.symm, by (repeat' (first | (with_reducible exact Below.refl _ _) | (with_reducible assumption) | (with_reducible refine Below.drewN ?_ _) | (with_reducible refine Below.drew ?_) | (with_reducible refine Below.alloc ?_ ?_ _) | (with_reducible refine Below.setCell ?_ ?_ _) | (with_reducible exact Nat.le_refl _) | (with_reducible exact Below.size (by assumption)) | omega | (simp only [World.size_alloc, World.size_setCell, World.size_drew]; omega) | (simp; done) | (simp; omega)))⟩)
        · by_cases c2 : q ≤ p
          · have HX := Lib.hid (HNO.out (by have e := HJ.out; subst e; exact pt_no2 HGQ.out HGP.out c2))
            clear HNO HGQ HGM HK
            go_wp2_with fail
            (refine wp_region_quiet_lit (by kernel_rfl) (by kernel_rfl) ?_; (repeat (any_goals (first | go_big_quiet_step ((first | (go_at_call 33; exact Calls.quiet_of_same (twithinQ _ _ _ (by omega))))) | quiet_step ((first | (go_at_call 33; exact Calls.quiet_of_same (twithinQ _ _ _ (by omega))))) | (refine wpQuiet_step (fun K hK => ?_); go_simp; split <;> (refine hK _ ?_; clear hK K))))); all_goals (refine wpQuiet_nil ?_; intro _ hw'; obtain ⟨nq, hw''⟩ := hw'; subst hw''))
            all_goals (go_wp2_with fail)
            all_goals (go_ret; exact ⟨ret_b HX.out.symm, by (repeat' (first | (with_reducible exact Below.refl _ _) | (with_reducible assumption) | (with_reducible refine Below.drewN ?_ _) | (with_reducible refine Below.drew ?_) | (with_reducible refine Below.alloc ?_ ?_ _) | (with_reducible refine Below.setCell ?_ ?_ _) | (with_reducible exact Nat.le_refl _) | (with_reducible exact Below.size (by assumption)) | omega | (simp only [World.size_alloc, World.size_setCell, World.size_drew]; omega) | (simp; done) | (simp; omega)))⟩)
          · cases c3 : inB m 0 (v.t.nsec - 1) with
            | false =>
              have HX := Lib.hid (HNO.out (pt_no3 HGM.out c3))
              clear HNO HGQ HGM HK
              go_wp2_with fail
              (refine wp_region_quiet_lit (by kernel_rfl) (by kernel_rfl) ?_; (repeat (any_goals (first | go_big_quiet_step ((first | (go_at_call 33; exact Calls.quiet_of_same (twithinQ _ _ _ (by omega))))) | quiet_step ((first | (go_at_call 33; exact Calls.quiet_of_same (twithinQ _ _ _ (by omega))))) | (refine wpQuiet_step (fun K hK => ?_); go_simp; split <;> (refine hK _ ?_; clear hK K))))); all_goals (refine wpQuiet_nil ?_; intro _ hw'; obtain ⟨nq, hw''⟩ := hw'; subst hw''))
              all_goals (go_wp2_with fail)
              all_goals (go_ret; exact ⟨ret_b HX.out.symm, by (repeat' (first | (with_reducible exact Below.refl _ _) | (with_reducible assumption) | (with_reducible refine Below.drewN ?_ _) | (with_reducible refine Below.drew ?_) | (with_reducible refine Below.alloc ?_ ?_ _) | (with_reducible refine Below.setCell ?_ ?_ _) | (with_reducible exact Nat.le_refl _) | (with_reducible exact Below.size (by assumption)) | omega | (simp only [World.size_alloc, World.size_setCell, World.size_drew]; omega) | (simp; done) | (simp; omega)))⟩)
            | true =>
              have HX := Lib.hid (upto_succ HK.out (by have e := HJ.out; subst e; exact pt_yes1 HGQ.out HGP.out HGM.out c1 c2 c3))
              clear HNO HGQ HGM HK
              go_wp2_with fail
              (refine wp_region_quiet_lit (by kernel_rfl) (by kernel_rfl) ?_; (repeat (any_goals (first | go_big_quiet_step ((first | (go_at_call 33; exact Calls.quiet_of_same (twithinQ _ _ _ (by omega))))) | quiet_step ((first | (go_at_call 33; exact Calls.quiet_of_same (twithinQ _ _ _ (by omega))))) | (refine wpQuiet_step (fun K hK => ?_); go_simp; split <;> (refine hK _ ?_; clear hK K))))); all_goals (refine wpQuiet_nil ?_; intro _ hw'; obtain ⟨nq, hw''⟩ := hw'; subst hw''))
              all_goals (go_wp2_with fail)
              all_goals go_roundw
              case rel => exact ⟨k + 1, by omega, by go_num, hb.now (Below.drewN (Below.refl _ _) _), HX⟩
              case measure => simp [intOf]; omega
    · have HX := Lib.hid (HZ.out fun j hj => HK.out j (by omega))
      go_wp2_with fail
      go_ret
      exact ⟨ret_b HX.out.symm, hb.bel⟩
end Go.Proofs.YtlblfblkallnhaaGreatDoor
