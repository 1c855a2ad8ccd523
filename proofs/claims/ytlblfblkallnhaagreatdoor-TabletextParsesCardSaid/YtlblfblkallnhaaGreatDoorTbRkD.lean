/- The walk of the reference's Check of tables. -/
import Derived.Test.YtlblfblkallnhaaGreatDoorTbRkB
import Derived.Test.YtlblfblkallnhaaGreatDoorTbRkC
import Derived.Test.YtlblfblkallnhaaGreatDoorTbChkB
import Derived.Test.YtlblfblkallnhaaGreatDoorTbChkF
namespace Go.Proofs.YtlblfblkallnhaaGreatDoor
set_option linter.unusedVariables false
set_option linter.unusedSimpArgs false
open Go.RowKit
attribute [local go_sem] bs_size bs_get bs_append bs_extract bs_toList
attribute [-go_sem] run_equalIn_agg
theorem rRightC {t : Tab} {b : Bool} (v : TabV) (r : RouV) (h : rouB v.t r.r = b) (w : World) (hr : TvR w v) (hrr : RvR w (Lt w) r) (h3 : r.r.secs.length ≤ 40000) (h6 : r.r.osecs.length ≤ 40000) : Calls Tryz.prog 52 #[tvA v, .agg #[.string (bs r.r.name), .int .i64 r.r.ent, .int .i64 r.r.ext, .slice r.A1 r.r.path.length r.c1, .slice r.A2 r.r.pts.length r.c2, .slice r.A3 r.r.secs.length r.c3, .int .i64 r.r.app, .int .i64 r.r.len, .slice r.A4 r.r.over.length r.c4, .slice r.A5 r.r.opts.length r.c5, .slice r.A6 r.r.osecs.length r.c6, .slice r.A7 r.r.flk.length r.c7, .slice r.A8 r.r.grd.length r.c8, .slice r.A9 r.r.gap.length r.c9]] w fun e w' => e = .returned (.bool b) ∧ Below w.heap.size w w' := h ▸ rRight_any v r w hr hrr h3 h6
theorem rStsC {b : Bool} (v : TabV) (l : List Stg) (h : stsB v.t l = b) (A : Option Addr) (cap : Nat) (w : World) (hr : TvR w v) (hl : RdS cStg w (Lt w) A l) (hn : l.length ≤ maxLen) : Calls Tryz.prog 53 #[tvA v, .slice A l.length cap] w fun e w' => e = .returned (.bool b) ∧ Below w.heap.size w w' := h ▸ rSettings_any v l A cap w hr hl hn
theorem rAgrC {c : Bool} (a b : List Stg) (h : agrB a b = c) (A B : Option Addr) (ca cb : Nat) (w : World) (ha : RdS cStg w (Lt w) A a) (hb : RdS cStg w (Lt w) B b) (la : a.length ≤ maxLen) (lb : b.length ≤ maxLen) : Calls Tryz.prog 54 #[.slice A a.length ca, .slice B b.length cb] w fun e w' => e = .returned (.bool c) ∧ Below w.heap.size w w' := h ▸ rAgree_any a b A B ca cb w ha hb la lb
theorem rFindC {n : Int} (v : TabV) (x : List UInt8) (h : fstI (v.t.rts.map Rou.name) x = n) (w : World) (hr : TvR w v) : Calls Tryz.prog 55 #[tvA v, .string (bs x)] w fun e w' => e = .returned (.int .i64 n) ∧ Below w.heap.size w w' := h ▸ rFind_any v x w hr
theorem chkT_both {t : Tab} (h1 : limB t = true) (h2 : ptsB t = true) (h : (t.rts.all fun r => rouB t r && setB t r) = false) : chkT t = 1 := by
  rw [all_both] at h
  cases h3 : t.rts.all (rouB t) with
  | false => exact chkT_rou h1 h2 h3
  | true => rw [h3, Bool.true_and] at h; exact chkT_set h1 h2 h
theorem both_yes {t : Tab} (h : (t.rts.all fun r => rouB t r && setB t r) = true) : t.rts.all (rouB t) = true ∧ t.rts.all (setB t) = true := by
  rw [all_both, Bool.and_eq_true] at h; exact h
theorem lim_n3 {t : Tab} (h : t.nsec < 0 ∨ 24 < t.nsec) : limB t = false := lim_no (Or.inr (Or.inr (Or.inl (by rw [Bool.eq_false_iff, Ne, inB_iff]; omega))))
theorem lim_n4 {t : Tab} (h : t.nsig < 0 ∨ 20 < t.nsig) : limB t = false := lim_no (Or.inr (Or.inr (Or.inr (by rw [Bool.eq_false_iff, Ne, inB_iff]; omega))))
theorem pts_no0 {t : Tab} (h : ¬ t.homes.length = t.pts.length) : ptsB t = false := by unfold ptsB; rw [decide_eq_false h]; rfl
theorem pts_no {t : Tab} {k : Nat} (hk : k < t.pts.length) (h : ptB t k = false) : ptsB t = false := by unfold ptsB; rw [range_no hk h, Bool.and_false]
theorem pts_yes {t : Tab} (hl : t.homes.length = t.pts.length) (h : ∀ k, k < t.pts.length → ptB t k = true) : ptsB t = true := by unfold ptsB; rw [range_yes h, decide_eq_true hl]; rfl
theorem find_not {l : List Rou} {k : Nat} (h : k < l.length) {r : Rou} (hr : l[k] = r) (hx : r.name ∈ (l.map Rou.name).take k) : fstI (l.map Rou.name) r.name ≠ (k : Int) := by
  subst hr
  have h1 := fstI_mem (l := l.map Rou.name) (k := k) (by simpa using h) (by rw [nameAt h]; exact hx)
  rwa [nameAt h] at h1
theorem find_yes {l : List Rou} {k : Nat} (h : k < l.length) {r : Rou} (hr : l[k] = r) (hx : r.name ∉ (l.map Rou.name).take k) : fstI (l.map Rou.name) r.name = (k : Int) := by
  subst hr
  exact fst_here h hx rfl
theorem in_no {m n : Int} (h : m < 0 ∨ n ≤ m) : inB m 0 (n - 1) = false := by rw [Bool.eq_false_iff, Ne, inB_iff]; omega
theorem in_yes {m n : Int} (h : ¬ m < 0) (h2 : ¬ n ≤ m) : inB m 0 (n - 1) = true := inB_iff.2 (by omega)
set_option maxRecDepth 100000 in
set_option maxHeartbeats 40000000 in
theorem rcheckT_any (v : TabV) (w : World) (hr : TvR w v) (hsm : SecsOk v.t) : Calls Tryz.prog 23 #[tvA v] w fun e w' => e = .returned (.int .i64 (chkT v.t)) ∧ Below w.heap.size w w' := by
  have hb0 := Bx.new hr
  have x0 := hb0.x0
  have x1 := hb0.x1
  have x2 := hb0.x2
  have x3 := hb0.x3
  have x4 := hb0.x4
  have hB := hb0.bel
  have HSM := Lib.hid hsm
  have hm1 := hr.n2.1
  have hm2 := hr.n3.1
  unfold maxLen at hm1 hm2
  clear hsm
  unfold tvA
  by_cases d0 : 48 < v.t.rts.length
  case pos =>
    have HX := Lib.hid (chkT_lim (lim_no (Or.inl d0)))
    have i0 : decide ((48 : Int) < (v.t.rts.length : Int)) = true := decide_eq_true (by omega)
    clear d0
    go_enter Tryz.func23, Tryz.ntmps23
    go_wp2_with fail
    go_ret
    exact ⟨ret_iL HX.out.symm, hB⟩
  have i0 : decide ((48 : Int) < (v.t.rts.length : Int)) = false := decide_eq_false (by omega)
  by_cases d1 : 32 < v.t.pts.length
  case pos =>
    have HX := Lib.hid (chkT_lim (lim_no (Or.inr (Or.inl d1))))
    have i1 : decide ((32 : Int) < (v.t.pts.length : Int)) = true := decide_eq_true (by omega)
    clear d1
    go_enter Tryz.func23, Tryz.ntmps23
    go_wp2_with fail
    go_ret
    exact ⟨ret_iL HX.out.symm, hB⟩
  have i1 : decide ((32 : Int) < (v.t.pts.length : Int)) = false := decide_eq_false (by omega)
  by_cases d2 : v.t.nsec < 0
  case pos =>
    have HX := Lib.hid (chkT_lim (lim_n3 (Or.inl d2)))
    have i2 : decide (v.t.nsec < 0) = true := decide_eq_true (by omega)
    clear d2
    go_enter Tryz.func23, Tryz.ntmps23
    go_wp2_with fail
    go_ret
    exact ⟨ret_iL HX.out.symm, hB⟩
  have i2 : decide (v.t.nsec < 0) = false := decide_eq_false (by omega)
  by_cases d3 : 24 < v.t.nsec
  case pos =>
    have HX := Lib.hid (chkT_lim (lim_n3 (Or.inr d3)))
    have i3 : decide (24 < v.t.nsec) = true := decide_eq_true (by omega)
    clear d3
    go_enter Tryz.func23, Tryz.ntmps23
    go_wp2_with fail
    go_ret
    exact ⟨ret_iL HX.out.symm, hB⟩
  have i3 : decide (24 < v.t.nsec) = false := decide_eq_false (by omega)
  by_cases d4 : v.t.nsig < 0
  case pos =>
    have HX := Lib.hid (chkT_lim (lim_n4 (Or.inl d4)))
    have i4 : decide (v.t.nsig < 0) = true := decide_eq_true (by omega)
    clear d4
    go_enter Tryz.func23, Tryz.ntmps23
    go_wp2_with fail
    go_ret
    exact ⟨ret_iL HX.out.symm, hB⟩
  have i4 : decide (v.t.nsig < 0) = false := decide_eq_false (by omega)
  by_cases d5 : 20 < v.t.nsig
  case pos =>
    have HX := Lib.hid (chkT_lim (lim_n4 (Or.inr d5)))
    have i5 : decide (20 < v.t.nsig) = true := decide_eq_true (by omega)
    clear d5
    go_enter Tryz.func23, Tryz.ntmps23
    go_wp2_with fail
    go_ret
    exact ⟨ret_iL HX.out.symm, hB⟩
  have i5 : decide (20 < v.t.nsig) = false := decide_eq_false (by omega)
  have HLIM := Lib.hid (lim_yes d0 d1 (inB_iff.2 ⟨by omega, by omega⟩) (inB_iff.2 ⟨by omega, by omega⟩))
  have hrl : v.t.rts.length ≤ 48 := by omega
  clear d0 d1 d2 d3 d4 d5
  by_cases hl : v.t.homes.length = v.t.pts.length
  case neg =>
    have HX := Lib.hid (chkT_pts HLIM.out (pts_no0 hl))
    have hlb : ((v.t.homes.length : Int) != (v.t.pts.length : Int)) = true := by simp; omega
    clear hl
    go_enter Tryz.func23, Tryz.ntmps23
    go_wp2_with fail
    go_ret
    exact ⟨ret_iL HX.out.symm, hB⟩
  have hlb : ((v.t.homes.length : Int) != (v.t.pts.length : Int)) = false := by simp; omega
  have HL := Lib.hid hl
  clear hl
  go_enter Tryz.func23, Tryz.ntmps23
  go_wp2_with fail
  clear x0 x1 x2 x3 x4 hB hlb i0 i1 i2 i3 i4 i5
  go_loopw [51] (fun n wr => ∃ k : Nat, k ≤ v.t.pts.length ∧ n = .int .i64 k ∧ Bx w wr v ∧ Hid (∀ j, j < k → ptB v.t j = true)) (fun n _ => v.t.pts.length - (intOf n).toNat)
  case atStart => exact ⟨0, Nat.zero_le _, rfl, hb0, Lib.hid (fun j hj => absurd hj (Nat.not_lt_zero _))⟩
  case round =>
    clear hb0
    obtain ⟨k, hk, rfl, hb, HK⟩ := hrel
    by_cases hlt : k < v.t.pts.length
    · have hki : (k : Int) < (v.t.pts.length : Int) := by omega
      have hlh : k < v.t.homes.length := by have := HL.out; omega
      have hkh : (k : Int) < (v.t.homes.length : Int) := by omega
      obtain ⟨b, off, hA, lb, ho, y0⟩ := hb.rd.r2.elI hlt
      obtain ⟨b2, off2, hA2, lb2, ho2, z0⟩ := hb.rd.r3.elI hlh
      have x1 := hb.x1
      have x2 := hb.x2
      have x3 := hb.x3
      have HB := hb.bel
      have HNO := Lib.hid (fun h => chkT_pts HLIM.out (pts_no hlt h))
      have HGQ := Lib.hid (getD_at hlt (0 : Int))
      have HGM := Lib.hid (getD_at hlh (0 : Int))
      rw [hA2] at x2
      by_cases hk0 : k = 0
      · have hz0' : ¬ (0 : Int) < (k : Int) := by omega
        have hz0n : ¬ 0 < k := by omega
        have hz0e : (decide (0 < (k : Int))) = false := by simp; omega
        clear hA2
        rw [hA] at x1 ⊢
        clear hA
        generalize v.t.pts[k] = q at *
        generalize v.t.homes[k] = m at *
        have HK0 := Lib.hid hk0
        clear hk0
        by_cases c1 : q < 0
        · have HX := Lib.hid (HNO.out (pt_no1 HGQ.out c1))
          have ic1 : decide (q < 0) = true := decide_eq_true c1
          clear HNO HGQ HGM HK c1
          go_wp2_with fail
          (refine wp_region_quiet_lit (by kernel_rfl) (by kernel_rfl) ?_; (repeat (any_goals (first | go_big_quiet_step (fail) | quiet_step (fail) | (refine wpQuiet_step (fun K hK => ?_); go_simp; split <;> (refine hK _ ?_; clear hK K))))); all_goals (refine wpQuiet_nil ?_; intro _ hw'; obtain ⟨nq, hw''⟩ := hw'; subst hw''))
          all_goals (go_wp2_with fail)
          all_goals (go_ret; exact ⟨ret_iL HX.out.symm, by (repeat' (first | (with_reducible exact Below.refl _ _) | (with_reducible assumption) | (with_reducible refine Below.drewN ?_ _) | (with_reducible refine Below.drew ?_) | (with_reducible refine Below.alloc ?_ ?_ _) | (with_reducible refine Below.setCell ?_ ?_ _) | (with_reducible exact Nat.le_refl _) | (with_reducible exact Below.size (by assumption)) | omega | (simp only [World.size_alloc, World.size_setCell, World.size_drew]; omega) | (simp; done) | (simp; omega)))⟩)
        have ic1 : decide (q < 0) = false := decide_eq_false c1
        by_cases c3 : m < 0
        · have HX := Lib.hid (HNO.out (pt_no3 HGM.out (in_no (Or.inl c3))))
          have ic3 : decide (m < 0) = true := decide_eq_true c3
          clear HNO HGQ HGM HK c3
          go_wp2_with fail
          (refine wp_region_quiet_lit (by kernel_rfl) (by kernel_rfl) ?_; (repeat (any_goals (first | go_big_quiet_step (fail) | quiet_step (fail) | (refine wpQuiet_step (fun K hK => ?_); go_simp; split <;> (refine hK _ ?_; clear hK K))))); all_goals (refine wpQuiet_nil ?_; intro _ hw'; obtain ⟨nq, hw''⟩ := hw'; subst hw''))
          all_goals (go_wp2_with fail)
          all_goals (go_ret; exact ⟨ret_iL HX.out.symm, by (repeat' (first | (with_reducible exact Below.refl _ _) | (with_reducible assumption) | (with_reducible refine Below.drewN ?_ _) | (with_reducible refine Below.drew ?_) | (with_reducible refine Below.alloc ?_ ?_ _) | (with_reducible refine Below.setCell ?_ ?_ _) | (with_reducible exact Nat.le_refl _) | (with_reducible exact Below.size (by assumption)) | omega | (simp only [World.size_alloc, World.size_setCell, World.size_drew]; omega) | (simp; done) | (simp; omega)))⟩)
        have ic3 : decide (m < 0) = false := decide_eq_false c3
        by_cases c4 : v.t.nsec ≤ m
        · have HX := Lib.hid (HNO.out (pt_no3 HGM.out (in_no (Or.inr c4))))
          have ic4 : decide (v.t.nsec ≤ m) = true := decide_eq_true c4
          clear HNO HGQ HGM HK c4
          go_wp2_with fail
          (refine wp_region_quiet_lit (by kernel_rfl) (by kernel_rfl) ?_; (repeat (any_goals (first | go_big_quiet_step (fail) | quiet_step (fail) | (refine wpQuiet_step (fun K hK => ?_); go_simp; split <;> (refine hK _ ?_; clear hK K))))); all_goals (refine wpQuiet_nil ?_; intro _ hw'; obtain ⟨nq, hw''⟩ := hw'; subst hw''))
          all_goals (go_wp2_with fail)
          all_goals (go_ret; exact ⟨ret_iL HX.out.symm, by (repeat' (first | (with_reducible exact Below.refl _ _) | (with_reducible assumption) | (with_reducible refine Below.drewN ?_ _) | (with_reducible refine Below.drew ?_) | (with_reducible refine Below.alloc ?_ ?_ _) | (with_reducible refine Below.setCell ?_ ?_ _) | (with_reducible exact Nat.le_refl _) | (with_reducible exact Below.size (by assumption)) | omega | (simp only [World.size_alloc, World.size_setCell, World.size_drew]; omega) | (simp; done) | (simp; omega)))⟩)
        have ic4 : decide (v.t.nsec ≤ m) = false := decide_eq_false c4
        have HX := Lib.hid (upto_succ HK.out (by have e := HK0.out; subst e; exact pt_yes0 HGQ.out HGM.out c1 (in_yes c3 c4)))
        clear HNO HGQ HGM HK c1 c3 c4
        go_wp2_with fail
        (refine wp_region_quiet_lit (by kernel_rfl) (by kernel_rfl) ?_; (repeat (any_goals (first | go_big_quiet_step (fail) | quiet_step (fail) | (refine wpQuiet_step (fun K hK => ?_); go_simp; split <;> (refine hK _ ?_; clear hK K))))); all_goals (refine wpQuiet_nil ?_; intro _ hw'; obtain ⟨nq, hw''⟩ := hw'; subst hw''))
        all_goals (go_wp2_with fail)
        all_goals (
          go_roundw
          case rel => exact ⟨k + 1, by omega, by go_num, hb.now (Below.drewN (Below.refl _ _) _), HX⟩
          case measure => simp [intOf]; omega)
      · obtain ⟨j, hj⟩ : ∃ j, k = j + 1 := ⟨k - 1, by omega⟩
        have hz0' : (0 : Int) < (k : Int) := by omega
        have hz0e : (decide (0 < (k : Int))) = true := by simp; omega
        have hltp : j < v.t.pts.length := by omega
        have hkp : (j : Int) < (v.t.pts.length : Int) := by omega
        obtain ⟨b', off', hA', _, ho', u0⟩ := hb.rd.r2.elI hltp
        obtain ⟨rfl, rfl⟩ : b = b' ∧ off = off' := by rw [hA] at hA'; simp only [Option.some.injEq, Addr.mk.injEq] at hA'; exact ⟨hA'.1, hA'.2.1⟩
        have HGP := Lib.hid (getD_at hltp (0 : Int))
        rw [show off + j = off + (k - 1) by omega] at u0
        have hwk : IntKind.i64.wrap ((k : Int) - 1) = (k : Int) - 1 := IntWalk.i64_in _ (by omega)
        have HJ := Lib.hid hj
        clear hA2 hk0
        rw [hA] at x1 ⊢
        clear hA hA' ho' hj
        generalize v.t.pts[k] = q at *
        generalize v.t.pts[j] = p at *
        generalize v.t.homes[k] = m at *
        by_cases c1 : q < 0
        · have HX := Lib.hid (HNO.out (pt_no1 HGQ.out c1))
          have ic1 : decide (q < 0) = true := decide_eq_true c1
          clear HNO HGQ HGM HK c1
          go_wp2_with fail
          (refine wp_region_quiet_lit (by kernel_rfl) (by kernel_rfl) ?_; (repeat (any_goals (first | go_big_quiet_step (fail) | quiet_step (fail) | (refine wpQuiet_step (fun K hK => ?_); go_simp; split <;> (refine hK _ ?_; clear hK K))))); all_goals (refine wpQuiet_nil ?_; intro _ hw'; obtain ⟨nq, hw''⟩ := hw'; subst hw''))
          all_goals (go_wp2_with fail)
          all_goals (go_ret; exact ⟨ret_iL HX.out.symm, by (repeat' (first | (with_reducible exact Below.refl _ _) | (with_reducible assumption) | (with_reducible refine Below.drewN ?_ _) | (with_reducible refine Below.drew ?_) | (with_reducible refine Below.alloc ?_ ?_ _) | (with_reducible refine Below.setCell ?_ ?_ _) | (with_reducible exact Nat.le_refl _) | (with_reducible exact Below.size (by assumption)) | omega | (simp only [World.size_alloc, World.size_setCell, World.size_drew]; omega) | (simp; done) | (simp; omega)))⟩)
        have ic1 : decide (q < 0) = false := decide_eq_false c1
        by_cases c2 : q ≤ p
        · have HX := Lib.hid (HNO.out (by have e := HJ.out; subst e; exact pt_no2 HGQ.out HGP.out c2))
          have ic2 : decide (q ≤ p) = true := decide_eq_true c2
          clear HNO HGQ HGM HK c2
          go_wp2_with fail
          (refine wp_region_quiet_lit (by kernel_rfl) (by kernel_rfl) ?_; (repeat (any_goals (first | go_big_quiet_step (fail) | quiet_step (fail) | (refine wpQuiet_step (fun K hK => ?_); go_simp; split <;> (refine hK _ ?_; clear hK K))))); all_goals (refine wpQuiet_nil ?_; intro _ hw'; obtain ⟨nq, hw''⟩ := hw'; subst hw''))
          all_goals (go_wp2_with fail)
          all_goals (go_ret; exact ⟨ret_iL HX.out.symm, by (repeat' (first | (with_reducible exact Below.refl _ _) | (with_reducible assumption) | (with_reducible refine Below.drewN ?_ _) | (with_reducible refine Below.drew ?_) | (with_reducible refine Below.alloc ?_ ?_ _) | (with_reducible refine Below.setCell ?_ ?_ _) | (with_reducible exact Nat.le_refl _) | (with_reducible exact Below.size (by assumption)) | omega | (simp only [World.size_alloc, World.size_setCell, World.size_drew]; omega) | (simp; done) | (simp; omega)))⟩)
        have ic2 : decide (q ≤ p) = false := decide_eq_false c2
        by_cases c3 : m < 0
        · have HX := Lib.hid (HNO.out (pt_no3 HGM.out (in_no (Or.inl c3))))
          have ic3 : decide (m < 0) = true := decide_eq_true c3
          clear HNO HGQ HGM HK c3
          go_wp2_with fail
          (refine wp_region_quiet_lit (by kernel_rfl) (by kernel_rfl) ?_; (repeat (any_goals (first | go_big_quiet_step (fail) | quiet_step (fail) | (refine wpQuiet_step (fun K hK => ?_); go_simp; split <;> (refine hK _ ?_; clear hK K))))); all_goals (refine wpQuiet_nil ?_; intro _ hw'; obtain ⟨nq, hw''⟩ := hw'; subst hw''))
          all_goals (go_wp2_with fail)
          all_goals (go_ret; exact ⟨ret_iL HX.out.symm, by (repeat' (first | (with_reducible exact Below.refl _ _) | (with_reducible assumption) | (with_reducible refine Below.drewN ?_ _) | (with_reducible refine Below.drew ?_) | (with_reducible refine Below.alloc ?_ ?_ _) | (with_reducible refine Below.setCell ?_ ?_ _) | (with_reducible exact Nat.le_refl _) | (with_reducible exact Below.size (by assumption)) | omega | (simp only [World.size_alloc, World.size_setCell, World.size_drew]; omega) | (simp; done) | (simp; omega)))⟩)
        have ic3 : decide (m < 0) = false := decide_eq_false c3
        by_cases c4 : v.t.nsec ≤ m
        · have HX := Lib.hid (HNO.out (pt_no3 HGM.out (in_no (Or.inr c4))))
          have ic4 : decide (v.t.nsec ≤ m) = true := decide_eq_true c4
          clear HNO HGQ HGM HK c4
          go_wp2_with fail
          (refine wp_region_quiet_lit (by kernel_rfl) (by kernel_rfl) ?_; (repeat (any_goals (first | go_big_quiet_step (fail) | quiet_step (fail) | (refine wpQuiet_step (fun K hK => ?_); go_simp; split <;> (refine hK _ ?_; clear hK K))))); all_goals (refine wpQuiet_nil ?_; intro _ hw'; obtain ⟨nq, hw''⟩ := hw'; subst hw''))
          all_goals (go_wp2_with fail)
          all_goals (go_ret; exact ⟨ret_iL HX.out.symm, by (repeat' (first | (with_reducible exact Below.refl _ _) | (with_reducible assumption) | (with_reducible refine Below.drewN ?_ _) | (with_reducible refine Below.drew ?_) | (with_reducible refine Below.alloc ?_ ?_ _) | (with_reducible refine Below.setCell ?_ ?_ _) | (with_reducible exact Nat.le_refl _) | (with_reducible exact Below.size (by assumption)) | omega | (simp only [World.size_alloc, World.size_setCell, World.size_drew]; omega) | (simp; done) | (simp; omega)))⟩)
        have ic4 : decide (v.t.nsec ≤ m) = false := decide_eq_false c4
        have HX := Lib.hid (upto_succ HK.out (by have e := HJ.out; subst e; exact pt_yes1 HGQ.out HGP.out HGM.out c1 c2 (in_yes c3 c4)))
        clear HNO HGQ HGM HK c1 c2 c3 c4
        go_wp2_with fail
        (refine wp_region_quiet_lit (by kernel_rfl) (by kernel_rfl) ?_; (repeat (any_goals (first | go_big_quiet_step (fail) | quiet_step (fail) | (refine wpQuiet_step (fun K hK => ?_); go_simp; split <;> (refine hK _ ?_; clear hK K))))); all_goals (refine wpQuiet_nil ?_; intro _ hw'; obtain ⟨nq, hw''⟩ := hw'; subst hw''))
        all_goals (go_wp2_with fail)
        all_goals (
          go_roundw
          case rel => exact ⟨k + 1, by omega, by go_num, hb.now (Below.drewN (Below.refl _ _) _), HX⟩
          case measure => simp [intOf]; omega)
    · have HPT := Lib.hid (pts_yes HL.out fun j hj => HK.out j (by omega))
      clear HK
      have x0 := hb.x0
      go_wp2_with fail
      clear x0
      go_loopw [94] (fun n wr => ∃ k : Nat, k ≤ v.t.rts.length ∧ n = .int .i64 k ∧ Bx w wr v ∧ Hid (((v.t.rts.take k).all fun r => rouB v.t r && setB v.t r) = true)) (fun n _ => v.t.rts.length - (intOf n).toNat)
      case atStart => exact ⟨0, Nat.zero_le _, rfl, hb, Lib.hid (by simp)⟩
      case round =>
        clear hb
        obtain ⟨k, hk, rfl, hb, HK⟩ := hrel
        by_cases hlt : k < v.t.rts.length
        · have hki : (k : Int) < (v.t.rts.length : Int) := by omega
          obtain ⟨b, off, r, hA, lb, hre, hrv, y0, y1, y2, y3, y4, y5, y6, y7, y8, y9, y10, y11, y12, y13⟩ := hb.rd.r1.elR hlt
          have hrl3 := HSM.out _ (List.getElem_mem hlt)
          rw [← hre] at hrl3
          have HRE := Lib.hid hre.symm
          have HKK := Lib.hid HK.out
          clear hre HK
          have hb2 := hb.alloc (.cells #[.string (bs r.r.name), .int .i64 r.r.ent, .int .i64 r.r.ext, .slice r.A1 r.r.path.length r.c1, .slice r.A2 r.r.pts.length r.c2, .slice r.A3 r.r.secs.length r.c3, .int .i64 r.r.app, .int .i64 r.r.len, .slice r.A4 r.r.over.length r.c4, .slice r.A5 r.r.opts.length r.c5, .slice r.A6 r.r.osecs.length r.c6, .slice r.A7 r.r.flk.length r.c7, .slice r.A8 r.r.grd.length r.c8, .slice r.A9 r.r.gap.length r.c9] 41)
          have hRB := RBx.new hrv
          have x0 := hb.x0
          rw [hA] at x0
          cases s0 : rouB v.t r.r with
          | false =>
            have HX := Lib.hid (chkT_both HLIM.out HPT.out (all_no2 hlt (by rw [HRE.out]; exact by rw [s0]; rfl)))
            have HC := Lib.hid (rRightC (t := v.t) v r s0 _ hb2.rd hRB.rd hrl3.1 hrl3.2)
            unfold tvA at HC
            clear s0
            have x0 := hb2.x0
            have x1 := hb2.x1
            have x2 := hb2.x2
            have x3 := hb2.x3
            have x4 := hb2.x4
            have z0 := hRB.x0
            have z1 := hRB.x1
            have z2 := hRB.x2
            have z3 := hRB.x3
            have z4 := hRB.x4
            have z5 := hRB.x5
            have z6 := hRB.x6
            have z7 := hRB.x7
            have z8 := hRB.x8
            have z9 := hRB.x9
            have z10 := hRB.x10
            have z11 := hRB.x11
            have z12 := hRB.x12
            have z13 := hRB.x13
            have HBB := Lib.hid hb2
            have HRR := Lib.hid hRB
            rw [hA] at x0 HC ⊢
            clear hb2 hRB
            go_wp2_with fail
            refine HC.out.mono ?_
            rintro e w3 ⟨rfl, hq⟩
            have hb3 := HBB.out.now hq
            have hR3 := HRR.out.now hq
            clear HC HBB HRR hq z0 z1 z2 z3 z4 z5 z6 z7 z8 z9 z10 z11 z12 z13 x0 x1 x2 x3 x4
            go_wp2_with fail
            go_ret
            exact ⟨ret_iL HX.out.symm, hb3.bel⟩
          | true =>
            have S0 := Lib.hid s0
            have HC := Lib.hid (rRightC (t := v.t) v r s0 _ hb2.rd hRB.rd hrl3.1 hrl3.2)
            unfold tvA at HC
            clear s0
            have x0 := hb2.x0
            have x1 := hb2.x1
            have x2 := hb2.x2
            have x3 := hb2.x3
            have x4 := hb2.x4
            have z0 := hRB.x0
            have z1 := hRB.x1
            have z2 := hRB.x2
            have z3 := hRB.x3
            have z4 := hRB.x4
            have z5 := hRB.x5
            have z6 := hRB.x6
            have z7 := hRB.x7
            have z8 := hRB.x8
            have z9 := hRB.x9
            have z10 := hRB.x10
            have z11 := hRB.x11
            have z12 := hRB.x12
            have z13 := hRB.x13
            have HBB := Lib.hid hb2
            have HRR := Lib.hid hRB
            rw [hA] at x0 HC ⊢
            clear hb2 hRB
            go_wp2_with fail
            refine HC.out.mono ?_
            rintro e w3 ⟨rfl, hq⟩
            have hb3 := HBB.out.now hq
            have hR3 := HRR.out.now hq
            clear HC HBB HRR hq z0 z1 z2 z3 z4 z5 z6 z7 z8 z9 z10 z11 z12 z13 x0 x1 x2 x3 x4
            cases s1 : stsB v.t r.r.pts with
            | false =>
              have HX := Lib.hid (chkT_both HLIM.out HPT.out (all_no2 hlt (by rw [HRE.out]; exact by rw [set_no1 s1, Bool.and_false])))
              have HC := Lib.hid (rStsC v r.r.pts s1 r.A2 r.c2 w3 hb3.rd hR3.rd.r2 hR3.rd.o.n2.1)
              unfold tvA at HC
              clear s1
              have x0 := hb3.x0
              have x1 := hb3.x1
              have x2 := hb3.x2
              have x3 := hb3.x3
              have x4 := hb3.x4
              have z4 := hR3.x4
              have HBB := Lib.hid hb3
              have HRR := Lib.hid hR3
              rw [hA] at x0 HC
              clear hb3 hR3
              go_wp2_with fail
              refine HC.out.mono ?_
              rintro e w4 ⟨rfl, hq⟩
              have hb4 := HBB.out.now hq
              have hR4 := HRR.out.now hq
              clear HC HBB HRR hq z4 x0 x1 x2 x3 x4
              go_wp2_with fail
              go_ret
              exact ⟨ret_iL HX.out.symm, hb4.bel⟩
            | true =>
              have S1 := Lib.hid s1
              have HC := Lib.hid (rStsC v r.r.pts s1 r.A2 r.c2 w3 hb3.rd hR3.rd.r2 hR3.rd.o.n2.1)
              unfold tvA at HC
              clear s1
              have x0 := hb3.x0
              have x1 := hb3.x1
              have x2 := hb3.x2
              have x3 := hb3.x3
              have x4 := hb3.x4
              have z4 := hR3.x4
              have HBB := Lib.hid hb3
              have HRR := Lib.hid hR3
              rw [hA] at x0 HC
              clear hb3 hR3
              go_wp2_with fail
              refine HC.out.mono ?_
              rintro e w4 ⟨rfl, hq⟩
              have hb4 := HBB.out.now hq
              have hR4 := HRR.out.now hq
              clear HC HBB HRR hq z4 x0 x1 x2 x3 x4
              cases s2 : stsB v.t r.r.opts with
              | false =>
                have HX := Lib.hid (chkT_both HLIM.out HPT.out (all_no2 hlt (by rw [HRE.out]; exact by rw [set_no2 s2, Bool.and_false])))
                have HC := Lib.hid (rStsC v r.r.opts s2 r.A5 r.c5 w4 hb4.rd hR4.rd.r5 hR4.rd.o.n5.1)
                unfold tvA at HC
                clear s2
                have x0 := hb4.x0
                have x1 := hb4.x1
                have x2 := hb4.x2
                have x3 := hb4.x3
                have x4 := hb4.x4
                have z9 := hR4.x9
                have HBB := Lib.hid hb4
                have HRR := Lib.hid hR4
                rw [hA] at x0 HC
                clear hb4 hR4
                go_wp2_with fail
                refine HC.out.mono ?_
                rintro e w5 ⟨rfl, hq⟩
                have hb5 := HBB.out.now hq
                have hR5 := HRR.out.now hq
                clear HC HBB HRR hq z9 x0 x1 x2 x3 x4
                go_wp2_with fail
                go_ret
                exact ⟨ret_iL HX.out.symm, hb5.bel⟩
              | true =>
                have S2 := Lib.hid s2
                have HC := Lib.hid (rStsC v r.r.opts s2 r.A5 r.c5 w4 hb4.rd hR4.rd.r5 hR4.rd.o.n5.1)
                unfold tvA at HC
                clear s2
                have x0 := hb4.x0
                have x1 := hb4.x1
                have x2 := hb4.x2
                have x3 := hb4.x3
                have x4 := hb4.x4
                have z9 := hR4.x9
                have HBB := Lib.hid hb4
                have HRR := Lib.hid hR4
                rw [hA] at x0 HC
                clear hb4 hR4
                go_wp2_with fail
                refine HC.out.mono ?_
                rintro e w5 ⟨rfl, hq⟩
                have hb5 := HBB.out.now hq
                have hR5 := HRR.out.now hq
                clear HC HBB HRR hq z9 x0 x1 x2 x3 x4
                cases s3 : stsB v.t r.r.flk with
                | false =>
                  have HX := Lib.hid (chkT_both HLIM.out HPT.out (all_no2 hlt (by rw [HRE.out]; exact by rw [set_no3 s3, Bool.and_false])))
                  have HC := Lib.hid (rStsC v r.r.flk s3 r.A7 r.c7 w5 hb5.rd hR5.rd.r7 hR5.rd.o.n7.1)
                  unfold tvA at HC
                  clear s3
                  have x0 := hb5.x0
                  have x1 := hb5.x1
                  have x2 := hb5.x2
                  have x3 := hb5.x3
                  have x4 := hb5.x4
                  have z11 := hR5.x11
                  have HBB := Lib.hid hb5
                  have HRR := Lib.hid hR5
                  rw [hA] at x0 HC
                  clear hb5 hR5
                  go_wp2_with fail
                  refine HC.out.mono ?_
                  rintro e w6 ⟨rfl, hq⟩
                  have hb6 := HBB.out.now hq
                  have hR6 := HRR.out.now hq
                  clear HC HBB HRR hq z11 x0 x1 x2 x3 x4
                  go_wp2_with fail
                  go_ret
                  exact ⟨ret_iL HX.out.symm, hb6.bel⟩
                | true =>
                  have HK2 := Lib.hid (all_take2 hlt HKK.out (by rw [HRE.out]; exact by rw [S0.out, set_yes S1.out S2.out s3]; rfl))
                  have HC := Lib.hid (rStsC v r.r.flk s3 r.A7 r.c7 w5 hb5.rd hR5.rd.r7 hR5.rd.o.n7.1)
                  unfold tvA at HC
                  clear s3
                  have x0 := hb5.x0
                  have x1 := hb5.x1
                  have x2 := hb5.x2
                  have x3 := hb5.x3
                  have x4 := hb5.x4
                  have z11 := hR5.x11
                  have HBB := Lib.hid hb5
                  have HRR := Lib.hid hR5
                  rw [hA] at x0 HC
                  clear hb5 hR5
                  go_wp2_with fail
                  refine HC.out.mono ?_
                  rintro e w6 ⟨rfl, hq⟩
                  have hb6 := HBB.out.now hq
                  have hR6 := HRR.out.now hq
                  clear HC HBB HRR hq z11 x0 x1 x2 x3 x4
                  go_wp2_with fail
                  go_roundw
                  case rel => exact ⟨k + 1, by omega, by go_num, hb6, HK2⟩
                  case measure => simp [intOf]; omega
        · have HR0 := both_yes (all_end2 hlt HK.out)
          have HR1 := Lib.hid HR0.1
          have HR2 := Lib.hid HR0.2
          clear HK HR0
          have x0 := hb.x0
          go_wp2_with fail
          clear x0
          go_loopw [127] (fun n wr => ∃ k : Nat, k ≤ v.t.rts.length ∧ n = .int .i64 k ∧ Bx w wr v ∧ Hid ((v.t.rts.take k).all agB = true)) (fun n _ => v.t.rts.length - (intOf n).toNat)
          case atStart => exact ⟨0, Nat.zero_le _, rfl, hb, Lib.hid (by simp)⟩
          case round =>
            clear hb
            obtain ⟨k, hk, rfl, hb, HK⟩ := hrel
            by_cases hlt : k < v.t.rts.length
            · have hki : (k : Int) < (v.t.rts.length : Int) := by omega
              obtain ⟨b, off, r, hA, lb, hre, hrv, y0, y1, y2, y3, y4, y5, y6, y7, y8, y9, y10, y11, y12, y13⟩ := hb.rd.r1.elR hlt
              have hrl3 := HSM.out _ (List.getElem_mem hlt)
              rw [← hre] at hrl3
              have HRE := Lib.hid hre.symm
              have HKK := Lib.hid HK.out
              clear hre HK
              have hb2 := hb.alloc (.cells #[.string (bs r.r.name), .int .i64 r.r.ent, .int .i64 r.r.ext, .slice r.A1 r.r.path.length r.c1, .slice r.A2 r.r.pts.length r.c2, .slice r.A3 r.r.secs.length r.c3, .int .i64 r.r.app, .int .i64 r.r.len, .slice r.A4 r.r.over.length r.c4, .slice r.A5 r.r.opts.length r.c5, .slice r.A6 r.r.osecs.length r.c6, .slice r.A7 r.r.flk.length r.c7, .slice r.A8 r.r.grd.length r.c8, .slice r.A9 r.r.gap.length r.c9] 41)
              have hRB := RBx.new hrv
              have x0 := hb.x0
              rw [hA] at x0
              cases s0 : agrB r.r.pts r.r.opts with
              | false =>
                have HX := Lib.hid (chkT_agr HLIM.out HPT.out HR1.out HR2.out (all_no2 hlt (by rw [HRE.out]; exact ag_no1 s0)))
                have HC := Lib.hid (rAgrC r.r.pts r.r.opts s0 r.A2 r.A5 r.c2 r.c5 _ hRB.rd.r2 hRB.rd.r5 hRB.rd.o.n2.1 hRB.rd.o.n5.1)
                clear s0
                have z4 := hRB.x4
                have z9 := hRB.x9
                have HBB := Lib.hid hb2
                have HRR := Lib.hid hRB
                rw [hA]
                clear hb2 hRB
                go_wp2_with fail
                refine HC.out.mono ?_
                rintro e w3 ⟨rfl, hq⟩
                have hb3 := HBB.out.now hq
                have hR3 := HRR.out.now hq
                clear HC HBB HRR hq z4 z9 x0
                go_wp2_with fail
                go_ret
                exact ⟨ret_iL HX.out.symm, hb3.bel⟩
              | true =>
                have S0 := Lib.hid s0
                have HC := Lib.hid (rAgrC r.r.pts r.r.opts s0 r.A2 r.A5 r.c2 r.c5 _ hRB.rd.r2 hRB.rd.r5 hRB.rd.o.n2.1 hRB.rd.o.n5.1)
                clear s0
                have z4 := hRB.x4
                have z9 := hRB.x9
                have HBB := Lib.hid hb2
                have HRR := Lib.hid hRB
                rw [hA]
                clear hb2 hRB
                go_wp2_with fail
                refine HC.out.mono ?_
                rintro e w3 ⟨rfl, hq⟩
                have hb3 := HBB.out.now hq
                have hR3 := HRR.out.now hq
                clear HC HBB HRR hq z4 z9 x0
                cases s1 : agrB r.r.pts r.r.flk with
                | false =>
                  have HX := Lib.hid (chkT_agr HLIM.out HPT.out HR1.out HR2.out (all_no2 hlt (by rw [HRE.out]; exact ag_no2 s1)))
                  have HC := Lib.hid (rAgrC r.r.pts r.r.flk s1 r.A2 r.A7 r.c2 r.c7 w3 hR3.rd.r2 hR3.rd.r7 hR3.rd.o.n2.1 hR3.rd.o.n7.1)
                  clear s1
                  have z4 := hR3.x4
                  have z11 := hR3.x11
                  have HBB := Lib.hid hb3
                  have HRR := Lib.hid hR3
                  clear hb3 hR3
                  go_wp2_with fail
                  refine HC.out.mono ?_
                  rintro e w4 ⟨rfl, hq⟩
                  have hb4 := HBB.out.now hq
                  have hR4 := HRR.out.now hq
                  clear HC HBB HRR hq z4 z11
                  go_wp2_with fail
                  go_ret
                  exact ⟨ret_iL HX.out.symm, hb4.bel⟩
                | true =>
                  have S1 := Lib.hid s1
                  have HC := Lib.hid (rAgrC r.r.pts r.r.flk s1 r.A2 r.A7 r.c2 r.c7 w3 hR3.rd.r2 hR3.rd.r7 hR3.rd.o.n2.1 hR3.rd.o.n7.1)
                  clear s1
                  have z4 := hR3.x4
                  have z11 := hR3.x11
                  have HBB := Lib.hid hb3
                  have HRR := Lib.hid hR3
                  clear hb3 hR3
                  go_wp2_with fail
                  refine HC.out.mono ?_
                  rintro e w4 ⟨rfl, hq⟩
                  have hb4 := HBB.out.now hq
                  have hR4 := HRR.out.now hq
                  clear HC HBB HRR hq z4 z11
                  cases s2 : agrB r.r.opts r.r.flk with
                  | false =>
                    have HX := Lib.hid (chkT_agr HLIM.out HPT.out HR1.out HR2.out (all_no2 hlt (by rw [HRE.out]; exact ag_no3 s2)))
                    have HC := Lib.hid (rAgrC r.r.opts r.r.flk s2 r.A5 r.A7 r.c5 r.c7 w4 hR4.rd.r5 hR4.rd.r7 hR4.rd.o.n5.1 hR4.rd.o.n7.1)
                    clear s2
                    have z9 := hR4.x9
                    have z11 := hR4.x11
                    have HBB := Lib.hid hb4
                    have HRR := Lib.hid hR4
                    clear hb4 hR4
                    go_wp2_with fail
                    refine HC.out.mono ?_
                    rintro e w5 ⟨rfl, hq⟩
                    have hb5 := HBB.out.now hq
                    have hR5 := HRR.out.now hq
                    clear HC HBB HRR hq z9 z11
                    go_wp2_with fail
                    go_ret
                    exact ⟨ret_iL HX.out.symm, hb5.bel⟩
                  | true =>
                    have HK2 := Lib.hid (all_take2 hlt HKK.out (by rw [HRE.out]; exact ag_yes S0.out S1.out s2))
                    have HC := Lib.hid (rAgrC r.r.opts r.r.flk s2 r.A5 r.A7 r.c5 r.c7 w4 hR4.rd.r5 hR4.rd.r7 hR4.rd.o.n5.1 hR4.rd.o.n7.1)
                    clear s2
                    have z9 := hR4.x9
                    have z11 := hR4.x11
                    have HBB := Lib.hid hb4
                    have HRR := Lib.hid hR4
                    clear hb4 hR4
                    go_wp2_with fail
                    refine HC.out.mono ?_
                    rintro e w5 ⟨rfl, hq⟩
                    have hb5 := HBB.out.now hq
                    have hR5 := HRR.out.now hq
                    clear HC HBB HRR hq z9 z11
                    go_wp2_with fail
                    go_roundw
                    case rel => exact ⟨k + 1, by omega, by go_num, hb5, HK2⟩
                    case measure => simp [intOf]; omega
            · have HR3 := Lib.hid (all_end2 hlt HK.out)
              clear HK
              have x0 := hb.x0
              go_wp2_with fail
              clear x0
              go_loopw [157] (fun n wr => ∃ k : Nat, k ≤ v.t.rts.length ∧ n = .int .i64 k ∧ Bx w wr v ∧ Hid (((v.t.rts.map Rou.name).take k).Nodup)) (fun n _ => v.t.rts.length - (intOf n).toNat)
              case atStart => exact ⟨0, Nat.zero_le _, rfl, hb, Lib.hid (by simp)⟩
              case round =>
                clear hb
                obtain ⟨k, hk, rfl, hb, HK⟩ := hrel
                by_cases hlt : k < v.t.rts.length
                · have hki : (k : Int) < (v.t.rts.length : Int) := by omega
                  obtain ⟨b, off, r, hA, lb, hre, hrv, y0, y1, y2, y3, y4, y5, y6, y7, y8, y9, y10, y11, y12, y13⟩ := hb.rd.r1.elR hlt
                  have hrl3 := HSM.out _ (List.getElem_mem hlt)
                  rw [← hre] at hrl3
                  have HRE := Lib.hid hre.symm
                  have HKK := Lib.hid HK.out
                  clear hre HK
                  have hb2 := hb.alloc (.cells #[.string (bs r.r.name), .int .i64 r.r.ent, .int .i64 r.r.ext, .slice r.A1 r.r.path.length r.c1, .slice r.A2 r.r.pts.length r.c2, .slice r.A3 r.r.secs.length r.c3, .int .i64 r.r.app, .int .i64 r.r.len, .slice r.A4 r.r.over.length r.c4, .slice r.A5 r.r.opts.length r.c5, .slice r.A6 r.r.osecs.length r.c6, .slice r.A7 r.r.flk.length r.c7, .slice r.A8 r.r.grd.length r.c8, .slice r.A9 r.r.gap.length r.c9] 41)
                  have hRB := RBx.new hrv
                  have x0 := hb.x0
                  rw [hA] at x0
                  by_cases hd : r.r.name ∈ (v.t.rts.map Rou.name).take k
                  · have HX := Lib.hid (chkT_dup HLIM.out HPT.out HR1.out HR2.out HR3.out (dup_at hlt (by rw [HRE.out]; exact hd)))
                    have hne := find_not (l := v.t.rts) hlt HRE.out hd
                    obtain ⟨nf, hnf⟩ : ∃ x, fstI (v.t.rts.map Rou.name) r.r.name = x := ⟨_, rfl⟩
                    rw [hnf] at hne
                    have HC := Lib.hid (rFindC v r.r.name hnf _ hb2.rd)
                    have hnb : (nf != (k : Int)) = true := by simpa using hne
                    clear hd hne hnf
                    unfold tvA at HC
                    rw [hA] at HC ⊢
                    clear x0
                    have x1 := hb2.x1
                    have x2 := hb2.x2
                    have x3 := hb2.x3
                    have x4 := hb2.x4
                    have x0 := hb2.x0
                    rw [hA] at x0
                    have z0 := hRB.x0
                    have HBB := Lib.hid hb2
                    clear hb2 hRB hb hrv
                    go_wp2_with fail
                    refine HC.out.mono ?_
                    rintro e w3 ⟨rfl, hq⟩
                    have hb3 := HBB.out.now hq
                    clear HC HBB hq z0 x0 x1 x2 x3 x4
                    go_wp2_with fail
                    go_ret
                    exact ⟨ret_iL HX.out.symm, hb3.bel⟩
                  · have HT := Lib.hid (nod_at hlt HKK.out (by rw [HRE.out]; exact hd))
                    have hnf := find_yes (l := v.t.rts) hlt HRE.out hd
                    have HC := Lib.hid (rFindC v r.r.name hnf _ hb2.rd)
                    clear hd hnf
                    unfold tvA at HC
                    rw [hA] at HC ⊢
                    clear x0
                    have x1 := hb2.x1
                    have x2 := hb2.x2
                    have x3 := hb2.x3
                    have x4 := hb2.x4
                    have x0 := hb2.x0
                    rw [hA] at x0
                    have z0 := hRB.x0
                    have HBB := Lib.hid hb2
                    clear hb2 hRB hb hrv
                    go_wp2_with fail
                    refine HC.out.mono ?_
                    rintro e w3 ⟨rfl, hq⟩
                    have hb3 := HBB.out.now hq
                    clear HC HBB hq z0 x0 x1 x2 x3 x4
                    go_wp2_with fail
                    go_roundw
                    case rel => exact ⟨k + 1, by omega, by go_num, hb3, HT⟩
                    case measure => simp [intOf]; omega
                · have HX := Lib.hid (chkT_all HLIM.out HPT.out HR1.out HR2.out HR3.out (by have h1 := HK.out; rwa [List.take_of_length_le (by simp; omega)] at h1))
                  have hB := hb.bel
                  go_wp2_with fail
                  go_ret
                  exact ⟨ret_iL HX.out.symm, hB⟩
end Go.Proofs.YtlblfblkallnhaaGreatDoor
