/- The walk of the reference's right. -/
import Derived.Test.YtlblfblkallnhaaGreatDoorTbRkA
namespace Go.Proofs.YtlblfblkallnhaaGreatDoor
set_option linter.unusedVariables false
set_option linter.unusedSimpArgs false
open Go.RowKit
attribute [local go_sem] bs_size bs_get bs_append bs_extract bs_toList
attribute [-go_sem] run_equalIn_agg
theorem rou_iff {t : Tab} {r : Rou} : rouB t r = true ↔ (0 ≤ r.ent ∧ r.ent ≤ t.nsig - 1 ∧ -1 ≤ r.ext ∧ r.ext ≤ t.nsig - 1 ∧ 1 ≤ r.path.length ∧ r.path.length ≤ 12 ∧ r.secs.length ≠ 0 ∧ sscB t (r.secs ++ r.osecs) = true ∧ 0 ≤ r.app ∧ r.app ≤ t.nsec - 1 ∧ 1 ≤ r.len) := by
  unfold rouB inB
  simp only [Bool.and_eq_true, decide_eq_true_eq, ne_eq, List.length_eq_zero_iff]
  constructor
  · rintro ⟨⟨a1, a2⟩, ⟨a3, a4⟩, ⟨a5, a6⟩, ⟨a7, a8⟩, ⟨a9, a10⟩, a11⟩; exact ⟨a1, a2, a3, a4, a5, a6, a7, a8, a9, a10, a11⟩
  · rintro ⟨a1, a2, a3, a4, a5, a6, a7, a8, a9, a10, a11⟩; exact ⟨⟨a1, a2⟩, ⟨a3, a4⟩, ⟨a5, a6⟩, ⟨a7, a8⟩, ⟨a9, a10⟩, a11⟩
theorem rou_f {t : Tab} {r : Rou} (h : ¬ (0 ≤ r.ent ∧ r.ent ≤ t.nsig - 1 ∧ -1 ≤ r.ext ∧ r.ext ≤ t.nsig - 1 ∧ 1 ≤ r.path.length ∧ r.path.length ≤ 12 ∧ r.secs.length ≠ 0 ∧ sscB t (r.secs ++ r.osecs) = true ∧ 0 ≤ r.app ∧ r.app ≤ t.nsec - 1 ∧ 1 ≤ r.len)) : rouB t r = false := by
  rw [Bool.eq_false_iff]; exact fun h2 => h (rou_iff.1 h2)
set_option maxRecDepth 100000 in
set_option maxHeartbeats 16000000 in
theorem rRight_any (v : TabV) (r : RouV) (w : World) (hr : TvR w v) (hrr : RvR w (Lt w) r) (hl3 : r.r.secs.length ≤ 40000) (hl6 : r.r.osecs.length ≤ 40000) :
    Calls Tryz.prog 52 #[tvA v, .agg #[.string (bs r.r.name), .int .i64 r.r.ent, .int .i64 r.r.ext, .slice r.A1 r.r.path.length r.c1, .slice r.A2 r.r.pts.length r.c2, .slice r.A3 r.r.secs.length r.c3, .int .i64 r.r.app, .int .i64 r.r.len, .slice r.A4 r.r.over.length r.c4, .slice r.A5 r.r.opts.length r.c5, .slice r.A6 r.r.osecs.length r.c6, .slice r.A7 r.r.flk.length r.c7, .slice r.A8 r.r.grd.length r.c8, .slice r.A9 r.r.gap.length r.c9]] w fun e w' => e = .returned (.bool (rouB v.t r.r)) ∧ Below w.heap.size w w' := by
  have hS := RS.new w v r
  have x4 := hS.b0.cell 4
  have y1 := hS.b1.cell 1
  have y2 := hS.b1.cell 2
  have y3 := hS.b1.cell 3
  have y5 := hS.b1.cell 5
  have y7 := hS.b1.cell 7
  simp only [List.getElem?_toArray, List.getElem?_cons_zero, List.getElem?_cons_succ] at x4 y1 y2 y3 y5 y7
  have hB := hS.bel
  unfold tvA
  have HF := Lib.hid (rou_f (t := v.t) (r := r.r))
  by_cases p0 : r.r.ent < 0
  case pos =>
    have HX := Lib.hid (HF.out (by omega))
    have i0 : decide (r.r.ent < 0) = true := decide_eq_true (by omega)
    clear p0 HF
    go_enter Tryz.func52, Tryz.ntmps52
    go_wp2_with fail
    go_ret
    exact ⟨ret_b HX.out.symm, hB⟩
  have i0 : decide (r.r.ent < 0) = false := decide_eq_false (by omega)
  by_cases p1 : v.t.nsig ≤ r.r.ent
  case pos =>
    have HX := Lib.hid (HF.out (by omega))
    have i1 : decide (v.t.nsig ≤ r.r.ent) = true := decide_eq_true (by omega)
    clear p1 HF
    go_enter Tryz.func52, Tryz.ntmps52
    go_wp2_with fail
    go_ret
    exact ⟨ret_b HX.out.symm, hB⟩
  have i1 : decide (v.t.nsig ≤ r.r.ent) = false := decide_eq_false (by omega)
  by_cases p2 : r.r.ext < -1
  case pos =>
    have HX := Lib.hid (HF.out (by omega))
    have i2 : decide (r.r.ext < -1) = true := decide_eq_true (by omega)
    clear p2 HF
    go_enter Tryz.func52, Tryz.ntmps52
    go_wp2_with fail
    go_ret
    exact ⟨ret_b HX.out.symm, hB⟩
  have i2 : decide (r.r.ext < -1) = false := decide_eq_false (by omega)
  by_cases p3 : v.t.nsig ≤ r.r.ext
  case pos =>
    have HX := Lib.hid (HF.out (by omega))
    have i3 : decide (v.t.nsig ≤ r.r.ext) = true := decide_eq_true (by omega)
    clear p3 HF
    go_enter Tryz.func52, Tryz.ntmps52
    go_wp2_with fail
    go_ret
    exact ⟨ret_b HX.out.symm, hB⟩
  have i3 : decide (v.t.nsig ≤ r.r.ext) = false := decide_eq_false (by omega)
  by_cases p4 : r.r.path.length < 1
  case pos =>
    have HX := Lib.hid (HF.out (by omega))
    have i4 : decide ((r.r.path.length : Int) < 1) = true := decide_eq_true (by omega)
    clear p4 HF
    go_enter Tryz.func52, Tryz.ntmps52
    go_wp2_with fail
    go_ret
    exact ⟨ret_b HX.out.symm, hB⟩
  have i4 : decide ((r.r.path.length : Int) < 1) = false := decide_eq_false (by omega)
  by_cases p5 : 12 < r.r.path.length
  case pos =>
    have HX := Lib.hid (HF.out (by omega))
    have i5 : decide ((12 : Int) < (r.r.path.length : Int)) = true := decide_eq_true (by omega)
    clear p5 HF
    go_enter Tryz.func52, Tryz.ntmps52
    go_wp2_with fail
    go_ret
    exact ⟨ret_b HX.out.symm, hB⟩
  have i5 : decide ((12 : Int) < (r.r.path.length : Int)) = false := decide_eq_false (by omega)
  by_cases p6 : r.r.len < 1
  case pos =>
    have HX := Lib.hid (HF.out (by omega))
    have i6 : decide (r.r.len < 1) = true := decide_eq_true (by omega)
    clear p6 HF
    go_enter Tryz.func52, Tryz.ntmps52
    go_wp2_with fail
    go_ret
    exact ⟨ret_b HX.out.symm, hB⟩
  have i6 : decide (r.r.len < 1) = false := decide_eq_false (by omega)
  have HG : Hid (r.r.secs.length ≠ 0 → sscB v.t (r.r.secs ++ r.r.osecs) = true → 0 ≤ r.r.app → ¬ v.t.nsec ≤ r.r.app → rouB v.t r.r = true) := Lib.hid fun a b c d => rou_iff.2 ⟨by omega, by omega, by omega, by omega, by omega, by omega, a, b, c, by omega, by omega⟩
  clear p0 p1 p2 p3 p4 p5 p6
  obtain ⟨f0, hi0, hz0, hz1, hz2⟩ := info_parts infoIntT
  have hr3 := hrr.r3.now hB
  have hr6 := hrr.r6.now hB
  have HS := Lib.hid hS
  have HR := Lib.hid hr
  have HN3 := Lib.hid (Nat.le_trans hl3 (Nat.le_refl _))
  clear hS hr hrr hB
  by_cases p7 : r.r.secs.length = 0
  · have HX := Lib.hid (HF.out (fun h => h.2.2.2.2.2.2.1 p7))
    have HI7 := Lib.hid (show decide ((0 : Int) < (r.r.secs.length : Int)) = false ∧ ¬ 0 < r.r.secs.length from ⟨decide_eq_false (by omega), by omega⟩)
    clear p7 HF HG
    go_enter Tryz.func52, Tryz.ntmps52
    have hlow0 : LowR cI ((w.alloc (.cells #[.slice v.A1 v.t.rts.length v.c1, .slice v.A2 v.t.pts.length v.c2, .slice v.A3 v.t.homes.length v.c3, .int .i64 v.t.nsec, .int .i64 v.t.nsig] 25)).alloc (.cells #[.string (bs r.r.name), .int .i64 r.r.ent, .int .i64 r.r.ext, .slice r.A1 r.r.path.length r.c1, .slice r.A2 r.r.pts.length r.c2, .slice r.A3 r.r.secs.length r.c3, .int .i64 r.r.app, .int .i64 r.r.len, .slice r.A4 r.r.over.length r.c4, .slice r.A5 r.r.opts.length r.c5, .slice r.A6 r.r.osecs.length r.c6, .slice r.A7 r.r.flk.length r.c7, .slice r.A8 r.r.grd.length r.c8, .slice r.A9 r.r.gap.length r.c9] 41)) ((w.alloc (.cells #[.slice v.A1 v.t.rts.length v.c1, .slice v.A2 v.t.pts.length v.c2, .slice v.A3 v.t.homes.length v.c3, .int .i64 v.t.nsec, .int .i64 v.t.nsig] 25)).alloc (.cells #[.string (bs r.r.name), .int .i64 r.r.ent, .int .i64 r.r.ext, .slice r.A1 r.r.path.length r.c1, .slice r.A2 r.r.pts.length r.c2, .slice r.A3 r.r.secs.length r.c3, .int .i64 r.r.app, .int .i64 r.r.len, .slice r.A4 r.r.over.length r.c4, .slice r.A5 r.r.opts.length r.c5, .slice r.A6 r.r.osecs.length r.c6, .slice r.A7 r.r.flk.length r.c7, .slice r.A8 r.r.grd.length r.c8, .slice r.A9 r.r.gap.length r.c9] 41)).heap.size 3 (.slice none 0 0) [] := ⟨[], World.ownsRow_nil _ _ _ _, rfl, Nat.le_refl _⟩
    go_wp2_with (at_builtin; first
      | ((refine wpList_append_low (c := cI) _ rfl _ _ 23 rfl ((w.alloc (.cells #[.slice v.A1 v.t.rts.length v.c1, .slice v.A2 v.t.pts.length v.c2, .slice v.A3 v.t.homes.length v.c3, .int .i64 v.t.nsec, .int .i64 v.t.nsig] 25)).alloc (.cells #[.string (bs r.r.name), .int .i64 r.r.ent, .int .i64 r.r.ext, .slice r.A1 r.r.path.length r.c1, .slice r.A2 r.r.pts.length r.c2, .slice r.A3 r.r.secs.length r.c3, .int .i64 r.r.app, .int .i64 r.r.len, .slice r.A4 r.r.over.length r.c4, .slice r.A5 r.r.opts.length r.c5, .slice r.A6 r.r.osecs.length r.c6, .slice r.A7 r.r.flk.length r.c7, .slice r.A8 r.r.grd.length r.c8, .slice r.A9 r.r.gap.length r.c9] 41)).heap.size 3 f0 _ 8 Tryz.underlying23 hi0 hz0 hz1 hz2 rfl (by decide) _ [] (by rfl) hlow0 r.A3 r.c3 r.r.secs (by rfl) hr3 (fun ys x h => ints_one ys x h) (by simp; omega) (by omega) ?_); intro v1 w1 hlow1 hb1; rw [List.nil_append] at hlow1; have hS1 := HS.out.now hb1; have z10 := hS1.b1.cell 10; simp only [List.getElem?_toArray, List.getElem?_cons_zero, List.getElem?_cons_succ] at z10; clear hlow0 x4 y1 y2 y3 y5 y7)
      | (refine wpList_append_low (c := cI) _ rfl _ _ 23 rfl ((w.alloc (.cells #[.slice v.A1 v.t.rts.length v.c1, .slice v.A2 v.t.pts.length v.c2, .slice v.A3 v.t.homes.length v.c3, .int .i64 v.t.nsec, .int .i64 v.t.nsig] 25)).alloc (.cells #[.string (bs r.r.name), .int .i64 r.r.ent, .int .i64 r.r.ext, .slice r.A1 r.r.path.length r.c1, .slice r.A2 r.r.pts.length r.c2, .slice r.A3 r.r.secs.length r.c3, .int .i64 r.r.app, .int .i64 r.r.len, .slice r.A4 r.r.over.length r.c4, .slice r.A5 r.r.opts.length r.c5, .slice r.A6 r.r.osecs.length r.c6, .slice r.A7 r.r.flk.length r.c7, .slice r.A8 r.r.grd.length r.c8, .slice r.A9 r.r.gap.length r.c9] 41)).heap.size 3 f0 _ 8 Tryz.underlying23 hi0 hz0 hz1 hz2 rfl (by decide) v1 r.r.secs (by rfl) hlow1 r.A6 r.c6 r.r.osecs (by rfl) (hr6.low hb1) (fun ys x h => ints_one ys x h) (by omega) (by omega) ?_; intro v2 w2 hlow2 hb2; have hS2 := HS.out.now (hb1.trans hb2); obtain ⟨L, hL⟩ : ∃ L, L = r.r.secs ++ r.r.osecs := ⟨_, rfl⟩; rw [← hL] at hlow2; have HLE := Lib.hid hL; clear hL; obtain ⟨A2, c2, rfl, hm2, hrd2⟩ := hlow2.reads; have u0 := hS2.b0.cell 0; have u1 := hS2.b0.cell 1; have u2 := hS2.b0.cell 2; have u3 := hS2.b0.cell 3; have u4 := hS2.b0.cell 4; have z5 := hS2.b1.cell 5; have z6 := hS2.b1.cell 6; simp only [List.getElem?_toArray, List.getElem?_cons_zero, List.getElem?_cons_succ] at u0 u1 u2 u3 u4 z5 z6; have i7 := HI7.out.1; have i7n := HI7.out.2; clear z10 hlow1 hlow2 hS1 hr3 hr6))
    go_ret
    exact ⟨ret_b HX.out.symm, hS2.bel⟩
  have HI7 := Lib.hid (show decide ((0 : Int) < (r.r.secs.length : Int)) = true ∧ 0 < r.r.secs.length from ⟨decide_eq_true (by omega), by omega⟩)
  cases c3 : sscB v.t (r.r.secs ++ r.r.osecs)
  case false =>
    have HC3 := Lib.hid c3
    have HX := Lib.hid (HF.out (fun h => by rw [c3] at h; exact absurd h.2.2.2.2.2.2.2.1 (by decide)))
    clear p7 c3 HF HG
    go_enter Tryz.func52, Tryz.ntmps52
    have hlow0 : LowR cI ((w.alloc (.cells #[.slice v.A1 v.t.rts.length v.c1, .slice v.A2 v.t.pts.length v.c2, .slice v.A3 v.t.homes.length v.c3, .int .i64 v.t.nsec, .int .i64 v.t.nsig] 25)).alloc (.cells #[.string (bs r.r.name), .int .i64 r.r.ent, .int .i64 r.r.ext, .slice r.A1 r.r.path.length r.c1, .slice r.A2 r.r.pts.length r.c2, .slice r.A3 r.r.secs.length r.c3, .int .i64 r.r.app, .int .i64 r.r.len, .slice r.A4 r.r.over.length r.c4, .slice r.A5 r.r.opts.length r.c5, .slice r.A6 r.r.osecs.length r.c6, .slice r.A7 r.r.flk.length r.c7, .slice r.A8 r.r.grd.length r.c8, .slice r.A9 r.r.gap.length r.c9] 41)) ((w.alloc (.cells #[.slice v.A1 v.t.rts.length v.c1, .slice v.A2 v.t.pts.length v.c2, .slice v.A3 v.t.homes.length v.c3, .int .i64 v.t.nsec, .int .i64 v.t.nsig] 25)).alloc (.cells #[.string (bs r.r.name), .int .i64 r.r.ent, .int .i64 r.r.ext, .slice r.A1 r.r.path.length r.c1, .slice r.A2 r.r.pts.length r.c2, .slice r.A3 r.r.secs.length r.c3, .int .i64 r.r.app, .int .i64 r.r.len, .slice r.A4 r.r.over.length r.c4, .slice r.A5 r.r.opts.length r.c5, .slice r.A6 r.r.osecs.length r.c6, .slice r.A7 r.r.flk.length r.c7, .slice r.A8 r.r.grd.length r.c8, .slice r.A9 r.r.gap.length r.c9] 41)).heap.size 3 (.slice none 0 0) [] := ⟨[], World.ownsRow_nil _ _ _ _, rfl, Nat.le_refl _⟩
    go_wp2_with (at_builtin; first
      | ((refine wpList_append_low (c := cI) _ rfl _ _ 23 rfl ((w.alloc (.cells #[.slice v.A1 v.t.rts.length v.c1, .slice v.A2 v.t.pts.length v.c2, .slice v.A3 v.t.homes.length v.c3, .int .i64 v.t.nsec, .int .i64 v.t.nsig] 25)).alloc (.cells #[.string (bs r.r.name), .int .i64 r.r.ent, .int .i64 r.r.ext, .slice r.A1 r.r.path.length r.c1, .slice r.A2 r.r.pts.length r.c2, .slice r.A3 r.r.secs.length r.c3, .int .i64 r.r.app, .int .i64 r.r.len, .slice r.A4 r.r.over.length r.c4, .slice r.A5 r.r.opts.length r.c5, .slice r.A6 r.r.osecs.length r.c6, .slice r.A7 r.r.flk.length r.c7, .slice r.A8 r.r.grd.length r.c8, .slice r.A9 r.r.gap.length r.c9] 41)).heap.size 3 f0 _ 8 Tryz.underlying23 hi0 hz0 hz1 hz2 rfl (by decide) _ [] (by rfl) hlow0 r.A3 r.c3 r.r.secs (by rfl) hr3 (fun ys x h => ints_one ys x h) (by simp; omega) (by omega) ?_); intro v1 w1 hlow1 hb1; rw [List.nil_append] at hlow1; have hS1 := HS.out.now hb1; have z10 := hS1.b1.cell 10; simp only [List.getElem?_toArray, List.getElem?_cons_zero, List.getElem?_cons_succ] at z10; clear hlow0 x4 y1 y2 y3 y5 y7)
      | (refine wpList_append_low (c := cI) _ rfl _ _ 23 rfl ((w.alloc (.cells #[.slice v.A1 v.t.rts.length v.c1, .slice v.A2 v.t.pts.length v.c2, .slice v.A3 v.t.homes.length v.c3, .int .i64 v.t.nsec, .int .i64 v.t.nsig] 25)).alloc (.cells #[.string (bs r.r.name), .int .i64 r.r.ent, .int .i64 r.r.ext, .slice r.A1 r.r.path.length r.c1, .slice r.A2 r.r.pts.length r.c2, .slice r.A3 r.r.secs.length r.c3, .int .i64 r.r.app, .int .i64 r.r.len, .slice r.A4 r.r.over.length r.c4, .slice r.A5 r.r.opts.length r.c5, .slice r.A6 r.r.osecs.length r.c6, .slice r.A7 r.r.flk.length r.c7, .slice r.A8 r.r.grd.length r.c8, .slice r.A9 r.r.gap.length r.c9] 41)).heap.size 3 f0 _ 8 Tryz.underlying23 hi0 hz0 hz1 hz2 rfl (by decide) v1 r.r.secs (by rfl) hlow1 r.A6 r.c6 r.r.osecs (by rfl) (hr6.low hb1) (fun ys x h => ints_one ys x h) (by omega) (by omega) ?_; intro v2 w2 hlow2 hb2; have hS2 := HS.out.now (hb1.trans hb2); obtain ⟨L, hL⟩ : ∃ L, L = r.r.secs ++ r.r.osecs := ⟨_, rfl⟩; rw [← hL] at hlow2; have HLE := Lib.hid hL; clear hL; obtain ⟨A2, c2, rfl, hm2, hrd2⟩ := hlow2.reads; have u0 := hS2.b0.cell 0; have u1 := hS2.b0.cell 1; have u2 := hS2.b0.cell 2; have u3 := hS2.b0.cell 3; have u4 := hS2.b0.cell 4; have z5 := hS2.b1.cell 5; have z6 := hS2.b1.cell 6; simp only [List.getElem?_toArray, List.getElem?_cons_zero, List.getElem?_cons_succ] at u0 u1 u2 u3 u4 z5 z6; have i7 := HI7.out.1; have i7n := HI7.out.2; clear z10 hlow1 hlow2 hS1 hr3 hr6))
    refine (rSections_any v L A2 c2 _ (HR.out.now hS2.bel) hrd2 hm2.1).mono ?_
    rintro e wq ⟨rfl, hq⟩
    have hS3 := hS2.now hq
    have t3 := hS3.b0.cell 3
    have t6 := hS3.b1.cell 6
    simp only [List.getElem?_toArray, List.getElem?_cons_zero, List.getElem?_cons_succ] at t3 t6
    rw [HLE.out, HC3.out]
    go_wp2_with fail
    go_ret
    exact ⟨ret_b HX.out.symm, hS3.bel⟩
  have HC3 := Lib.hid c3
  by_cases p8 : 0 ≤ r.r.app
  case neg =>
    have HX := Lib.hid (HF.out (fun h => p8 h.2.2.2.2.2.2.2.2.1))
    have i8 : decide (0 ≤ r.r.app) = false := decide_eq_false p8
    clear p7 p8 c3 HF HG
    go_enter Tryz.func52, Tryz.ntmps52
    have hlow0 : LowR cI ((w.alloc (.cells #[.slice v.A1 v.t.rts.length v.c1, .slice v.A2 v.t.pts.length v.c2, .slice v.A3 v.t.homes.length v.c3, .int .i64 v.t.nsec, .int .i64 v.t.nsig] 25)).alloc (.cells #[.string (bs r.r.name), .int .i64 r.r.ent, .int .i64 r.r.ext, .slice r.A1 r.r.path.length r.c1, .slice r.A2 r.r.pts.length r.c2, .slice r.A3 r.r.secs.length r.c3, .int .i64 r.r.app, .int .i64 r.r.len, .slice r.A4 r.r.over.length r.c4, .slice r.A5 r.r.opts.length r.c5, .slice r.A6 r.r.osecs.length r.c6, .slice r.A7 r.r.flk.length r.c7, .slice r.A8 r.r.grd.length r.c8, .slice r.A9 r.r.gap.length r.c9] 41)) ((w.alloc (.cells #[.slice v.A1 v.t.rts.length v.c1, .slice v.A2 v.t.pts.length v.c2, .slice v.A3 v.t.homes.length v.c3, .int .i64 v.t.nsec, .int .i64 v.t.nsig] 25)).alloc (.cells #[.string (bs r.r.name), .int .i64 r.r.ent, .int .i64 r.r.ext, .slice r.A1 r.r.path.length r.c1, .slice r.A2 r.r.pts.length r.c2, .slice r.A3 r.r.secs.length r.c3, .int .i64 r.r.app, .int .i64 r.r.len, .slice r.A4 r.r.over.length r.c4, .slice r.A5 r.r.opts.length r.c5, .slice r.A6 r.r.osecs.length r.c6, .slice r.A7 r.r.flk.length r.c7, .slice r.A8 r.r.grd.length r.c8, .slice r.A9 r.r.gap.length r.c9] 41)).heap.size 3 (.slice none 0 0) [] := ⟨[], World.ownsRow_nil _ _ _ _, rfl, Nat.le_refl _⟩
    go_wp2_with (at_builtin; first
      | ((refine wpList_append_low (c := cI) _ rfl _ _ 23 rfl ((w.alloc (.cells #[.slice v.A1 v.t.rts.length v.c1, .slice v.A2 v.t.pts.length v.c2, .slice v.A3 v.t.homes.length v.c3, .int .i64 v.t.nsec, .int .i64 v.t.nsig] 25)).alloc (.cells #[.string (bs r.r.name), .int .i64 r.r.ent, .int .i64 r.r.ext, .slice r.A1 r.r.path.length r.c1, .slice r.A2 r.r.pts.length r.c2, .slice r.A3 r.r.secs.length r.c3, .int .i64 r.r.app, .int .i64 r.r.len, .slice r.A4 r.r.over.length r.c4, .slice r.A5 r.r.opts.length r.c5, .slice r.A6 r.r.osecs.length r.c6, .slice r.A7 r.r.flk.length r.c7, .slice r.A8 r.r.grd.length r.c8, .slice r.A9 r.r.gap.length r.c9] 41)).heap.size 3 f0 _ 8 Tryz.underlying23 hi0 hz0 hz1 hz2 rfl (by decide) _ [] (by rfl) hlow0 r.A3 r.c3 r.r.secs (by rfl) hr3 (fun ys x h => ints_one ys x h) (by simp; omega) (by omega) ?_); intro v1 w1 hlow1 hb1; rw [List.nil_append] at hlow1; have hS1 := HS.out.now hb1; have z10 := hS1.b1.cell 10; simp only [List.getElem?_toArray, List.getElem?_cons_zero, List.getElem?_cons_succ] at z10; clear hlow0 x4 y1 y2 y3 y5 y7)
      | (refine wpList_append_low (c := cI) _ rfl _ _ 23 rfl ((w.alloc (.cells #[.slice v.A1 v.t.rts.length v.c1, .slice v.A2 v.t.pts.length v.c2, .slice v.A3 v.t.homes.length v.c3, .int .i64 v.t.nsec, .int .i64 v.t.nsig] 25)).alloc (.cells #[.string (bs r.r.name), .int .i64 r.r.ent, .int .i64 r.r.ext, .slice r.A1 r.r.path.length r.c1, .slice r.A2 r.r.pts.length r.c2, .slice r.A3 r.r.secs.length r.c3, .int .i64 r.r.app, .int .i64 r.r.len, .slice r.A4 r.r.over.length r.c4, .slice r.A5 r.r.opts.length r.c5, .slice r.A6 r.r.osecs.length r.c6, .slice r.A7 r.r.flk.length r.c7, .slice r.A8 r.r.grd.length r.c8, .slice r.A9 r.r.gap.length r.c9] 41)).heap.size 3 f0 _ 8 Tryz.underlying23 hi0 hz0 hz1 hz2 rfl (by decide) v1 r.r.secs (by rfl) hlow1 r.A6 r.c6 r.r.osecs (by rfl) (hr6.low hb1) (fun ys x h => ints_one ys x h) (by omega) (by omega) ?_; intro v2 w2 hlow2 hb2; have hS2 := HS.out.now (hb1.trans hb2); obtain ⟨L, hL⟩ : ∃ L, L = r.r.secs ++ r.r.osecs := ⟨_, rfl⟩; rw [← hL] at hlow2; have HLE := Lib.hid hL; clear hL; obtain ⟨A2, c2, rfl, hm2, hrd2⟩ := hlow2.reads; have u0 := hS2.b0.cell 0; have u1 := hS2.b0.cell 1; have u2 := hS2.b0.cell 2; have u3 := hS2.b0.cell 3; have u4 := hS2.b0.cell 4; have z5 := hS2.b1.cell 5; have z6 := hS2.b1.cell 6; simp only [List.getElem?_toArray, List.getElem?_cons_zero, List.getElem?_cons_succ] at u0 u1 u2 u3 u4 z5 z6; have i7 := HI7.out.1; have i7n := HI7.out.2; clear z10 hlow1 hlow2 hS1 hr3 hr6))
    refine (rSections_any v L A2 c2 _ (HR.out.now hS2.bel) hrd2 hm2.1).mono ?_
    rintro e wq ⟨rfl, hq⟩
    have hS3 := hS2.now hq
    have t3 := hS3.b0.cell 3
    have t6 := hS3.b1.cell 6
    simp only [List.getElem?_toArray, List.getElem?_cons_zero, List.getElem?_cons_succ] at t3 t6
    rw [HLE.out, HC3.out]
    go_wp2_with fail
    go_ret
    exact ⟨ret_b HX.out.symm, hS3.bel⟩
  have i8 : decide (0 ≤ r.r.app) = true := decide_eq_true p8
  by_cases p9 : v.t.nsec ≤ r.r.app
  case pos =>
    have HX := Lib.hid (HF.out (fun h => by have := h.2.2.2.2.2.2.2.2.2.1; omega))
    have i9 : decide (r.r.app < v.t.nsec) = false := decide_eq_false (by omega)
    clear p7 p8 p9 c3 HF HG
    go_enter Tryz.func52, Tryz.ntmps52
    have hlow0 : LowR cI ((w.alloc (.cells #[.slice v.A1 v.t.rts.length v.c1, .slice v.A2 v.t.pts.length v.c2, .slice v.A3 v.t.homes.length v.c3, .int .i64 v.t.nsec, .int .i64 v.t.nsig] 25)).alloc (.cells #[.string (bs r.r.name), .int .i64 r.r.ent, .int .i64 r.r.ext, .slice r.A1 r.r.path.length r.c1, .slice r.A2 r.r.pts.length r.c2, .slice r.A3 r.r.secs.length r.c3, .int .i64 r.r.app, .int .i64 r.r.len, .slice r.A4 r.r.over.length r.c4, .slice r.A5 r.r.opts.length r.c5, .slice r.A6 r.r.osecs.length r.c6, .slice r.A7 r.r.flk.length r.c7, .slice r.A8 r.r.grd.length r.c8, .slice r.A9 r.r.gap.length r.c9] 41)) ((w.alloc (.cells #[.slice v.A1 v.t.rts.length v.c1, .slice v.A2 v.t.pts.length v.c2, .slice v.A3 v.t.homes.length v.c3, .int .i64 v.t.nsec, .int .i64 v.t.nsig] 25)).alloc (.cells #[.string (bs r.r.name), .int .i64 r.r.ent, .int .i64 r.r.ext, .slice r.A1 r.r.path.length r.c1, .slice r.A2 r.r.pts.length r.c2, .slice r.A3 r.r.secs.length r.c3, .int .i64 r.r.app, .int .i64 r.r.len, .slice r.A4 r.r.over.length r.c4, .slice r.A5 r.r.opts.length r.c5, .slice r.A6 r.r.osecs.length r.c6, .slice r.A7 r.r.flk.length r.c7, .slice r.A8 r.r.grd.length r.c8, .slice r.A9 r.r.gap.length r.c9] 41)).heap.size 3 (.slice none 0 0) [] := ⟨[], World.ownsRow_nil _ _ _ _, rfl, Nat.le_refl _⟩
    go_wp2_with (at_builtin; first
      | ((refine wpList_append_low (c := cI) _ rfl _ _ 23 rfl ((w.alloc (.cells #[.slice v.A1 v.t.rts.length v.c1, .slice v.A2 v.t.pts.length v.c2, .slice v.A3 v.t.homes.length v.c3, .int .i64 v.t.nsec, .int .i64 v.t.nsig] 25)).alloc (.cells #[.string (bs r.r.name), .int .i64 r.r.ent, .int .i64 r.r.ext, .slice r.A1 r.r.path.length r.c1, .slice r.A2 r.r.pts.length r.c2, .slice r.A3 r.r.secs.length r.c3, .int .i64 r.r.app, .int .i64 r.r.len, .slice r.A4 r.r.over.length r.c4, .slice r.A5 r.r.opts.length r.c5, .slice r.A6 r.r.osecs.length r.c6, .slice r.A7 r.r.flk.length r.c7, .slice r.A8 r.r.grd.length r.c8, .slice r.A9 r.r.gap.length r.c9] 41)).heap.size 3 f0 _ 8 Tryz.underlying23 hi0 hz0 hz1 hz2 rfl (by decide) _ [] (by rfl) hlow0 r.A3 r.c3 r.r.secs (by rfl) hr3 (fun ys x h => ints_one ys x h) (by simp; omega) (by omega) ?_); intro v1 w1 hlow1 hb1; rw [List.nil_append] at hlow1; have hS1 := HS.out.now hb1; have z10 := hS1.b1.cell 10; simp only [List.getElem?_toArray, List.getElem?_cons_zero, List.getElem?_cons_succ] at z10; clear hlow0 x4 y1 y2 y3 y5 y7)
      | (refine wpList_append_low (c := cI) _ rfl _ _ 23 rfl ((w.alloc (.cells #[.slice v.A1 v.t.rts.length v.c1, .slice v.A2 v.t.pts.length v.c2, .slice v.A3 v.t.homes.length v.c3, .int .i64 v.t.nsec, .int .i64 v.t.nsig] 25)).alloc (.cells #[.string (bs r.r.name), .int .i64 r.r.ent, .int .i64 r.r.ext, .slice r.A1 r.r.path.length r.c1, .slice r.A2 r.r.pts.length r.c2, .slice r.A3 r.r.secs.length r.c3, .int .i64 r.r.app, .int .i64 r.r.len, .slice r.A4 r.r.over.length r.c4, .slice r.A5 r.r.opts.length r.c5, .slice r.A6 r.r.osecs.length r.c6, .slice r.A7 r.r.flk.length r.c7, .slice r.A8 r.r.grd.length r.c8, .slice r.A9 r.r.gap.length r.c9] 41)).heap.size 3 f0 _ 8 Tryz.underlying23 hi0 hz0 hz1 hz2 rfl (by decide) v1 r.r.secs (by rfl) hlow1 r.A6 r.c6 r.r.osecs (by rfl) (hr6.low hb1) (fun ys x h => ints_one ys x h) (by omega) (by omega) ?_; intro v2 w2 hlow2 hb2; have hS2 := HS.out.now (hb1.trans hb2); obtain ⟨L, hL⟩ : ∃ L, L = r.r.secs ++ r.r.osecs := ⟨_, rfl⟩; rw [← hL] at hlow2; have HLE := Lib.hid hL; clear hL; obtain ⟨A2, c2, rfl, hm2, hrd2⟩ := hlow2.reads; have u0 := hS2.b0.cell 0; have u1 := hS2.b0.cell 1; have u2 := hS2.b0.cell 2; have u3 := hS2.b0.cell 3; have u4 := hS2.b0.cell 4; have z5 := hS2.b1.cell 5; have z6 := hS2.b1.cell 6; simp only [List.getElem?_toArray, List.getElem?_cons_zero, List.getElem?_cons_succ] at u0 u1 u2 u3 u4 z5 z6; have i7 := HI7.out.1; have i7n := HI7.out.2; clear z10 hlow1 hlow2 hS1 hr3 hr6))
    refine (rSections_any v L A2 c2 _ (HR.out.now hS2.bel) hrd2 hm2.1).mono ?_
    rintro e wq ⟨rfl, hq⟩
    have hS3 := hS2.now hq
    have t3 := hS3.b0.cell 3
    have t6 := hS3.b1.cell 6
    simp only [List.getElem?_toArray, List.getElem?_cons_zero, List.getElem?_cons_succ] at t3 t6
    rw [HLE.out, HC3.out]
    go_wp2_with fail
    go_ret
    exact ⟨ret_b HX.out.symm, hS3.bel⟩
  have HX := Lib.hid (HG.out p7 c3 p8 p9)
  have i9 : decide (r.r.app < v.t.nsec) = true := decide_eq_true (by omega)
  clear p7 p8 p9 c3 HF HG
  go_enter Tryz.func52, Tryz.ntmps52
  have hlow0 : LowR cI ((w.alloc (.cells #[.slice v.A1 v.t.rts.length v.c1, .slice v.A2 v.t.pts.length v.c2, .slice v.A3 v.t.homes.length v.c3, .int .i64 v.t.nsec, .int .i64 v.t.nsig] 25)).alloc (.cells #[.string (bs r.r.name), .int .i64 r.r.ent, .int .i64 r.r.ext, .slice r.A1 r.r.path.length r.c1, .slice r.A2 r.r.pts.length r.c2, .slice r.A3 r.r.secs.length r.c3, .int .i64 r.r.app, .int .i64 r.r.len, .slice r.A4 r.r.over.length r.c4, .slice r.A5 r.r.opts.length r.c5, .slice r.A6 r.r.osecs.length r.c6, .slice r.A7 r.r.flk.length r.c7, .slice r.A8 r.r.grd.length r.c8, .slice r.A9 r.r.gap.length r.c9] 41)) ((w.alloc (.cells #[.slice v.A1 v.t.rts.length v.c1, .slice v.A2 v.t.pts.length v.c2, .slice v.A3 v.t.homes.length v.c3, .int .i64 v.t.nsec, .int .i64 v.t.nsig] 25)).alloc (.cells #[.string (bs r.r.name), .int .i64 r.r.ent, .int .i64 r.r.ext, .slice r.A1 r.r.path.length r.c1, .slice r.A2 r.r.pts.length r.c2, .slice r.A3 r.r.secs.length r.c3, .int .i64 r.r.app, .int .i64 r.r.len, .slice r.A4 r.r.over.length r.c4, .slice r.A5 r.r.opts.length r.c5, .slice r.A6 r.r.osecs.length r.c6, .slice r.A7 r.r.flk.length r.c7, .slice r.A8 r.r.grd.length r.c8, .slice r.A9 r.r.gap.length r.c9] 41)).heap.size 3 (.slice none 0 0) [] := ⟨[], World.ownsRow_nil _ _ _ _, rfl, Nat.le_refl _⟩
  go_wp2_with (at_builtin; first
    | ((refine wpList_append_low (c := cI) _ rfl _ _ 23 rfl ((w.alloc (.cells #[.slice v.A1 v.t.rts.length v.c1, .slice v.A2 v.t.pts.length v.c2, .slice v.A3 v.t.homes.length v.c3, .int .i64 v.t.nsec, .int .i64 v.t.nsig] 25)).alloc (.cells #[.string (bs r.r.name), .int .i64 r.r.ent, .int .i64 r.r.ext, .slice r.A1 r.r.path.length r.c1, .slice r.A2 r.r.pts.length r.c2, .slice r.A3 r.r.secs.length r.c3, .int .i64 r.r.app, .int .i64 r.r.len, .slice r.A4 r.r.over.length r.c4, .slice r.A5 r.r.opts.length r.c5, .slice r.A6 r.r.osecs.length r.c6, .slice r.A7 r.r.flk.length r.c7, .slice r.A8 r.r.grd.length r.c8, .slice r.A9 r.r.gap.length r.c9] 41)).heap.size 3 f0 _ 8 Tryz.underlying23 hi0 hz0 hz1 hz2 rfl (by decide) _ [] (by rfl) hlow0 r.A3 r.c3 r.r.secs (by rfl) hr3 (fun ys x h => ints_one ys x h) (by simp; omega) (by omega) ?_); intro v1 w1 hlow1 hb1; rw [List.nil_append] at hlow1; have hS1 := HS.out.now hb1; have z10 := hS1.b1.cell 10; simp only [List.getElem?_toArray, List.getElem?_cons_zero, List.getElem?_cons_succ] at z10; clear hlow0 x4 y1 y2 y3 y5 y7)
    | (refine wpList_append_low (c := cI) _ rfl _ _ 23 rfl ((w.alloc (.cells #[.slice v.A1 v.t.rts.length v.c1, .slice v.A2 v.t.pts.length v.c2, .slice v.A3 v.t.homes.length v.c3, .int .i64 v.t.nsec, .int .i64 v.t.nsig] 25)).alloc (.cells #[.string (bs r.r.name), .int .i64 r.r.ent, .int .i64 r.r.ext, .slice r.A1 r.r.path.length r.c1, .slice r.A2 r.r.pts.length r.c2, .slice r.A3 r.r.secs.length r.c3, .int .i64 r.r.app, .int .i64 r.r.len, .slice r.A4 r.r.over.length r.c4, .slice r.A5 r.r.opts.length r.c5, .slice r.A6 r.r.osecs.length r.c6, .slice r.A7 r.r.flk.length r.c7, .slice r.A8 r.r.grd.length r.c8, .slice r.A9 r.r.gap.length r.c9] 41)).heap.size 3 f0 _ 8 Tryz.underlying23 hi0 hz0 hz1 hz2 rfl (by decide) v1 r.r.secs (by rfl) hlow1 r.A6 r.c6 r.r.osecs (by rfl) (hr6.low hb1) (fun ys x h => ints_one ys x h) (by omega) (by omega) ?_; intro v2 w2 hlow2 hb2; have hS2 := HS.out.now (hb1.trans hb2); obtain ⟨L, hL⟩ : ∃ L, L = r.r.secs ++ r.r.osecs := ⟨_, rfl⟩; rw [← hL] at hlow2; have HLE := Lib.hid hL; clear hL; obtain ⟨A2, c2, rfl, hm2, hrd2⟩ := hlow2.reads; have u0 := hS2.b0.cell 0; have u1 := hS2.b0.cell 1; have u2 := hS2.b0.cell 2; have u3 := hS2.b0.cell 3; have u4 := hS2.b0.cell 4; have z5 := hS2.b1.cell 5; have z6 := hS2.b1.cell 6; simp only [List.getElem?_toArray, List.getElem?_cons_zero, List.getElem?_cons_succ] at u0 u1 u2 u3 u4 z5 z6; have i7 := HI7.out.1; have i7n := HI7.out.2; clear z10 hlow1 hlow2 hS1 hr3 hr6))
  refine (rSections_any v L A2 c2 _ (HR.out.now hS2.bel) hrd2 hm2.1).mono ?_
  rintro e wq ⟨rfl, hq⟩
  have hS3 := hS2.now hq
  have t3 := hS3.b0.cell 3
  have t6 := hS3.b1.cell 6
  simp only [List.getElem?_toArray, List.getElem?_cons_zero, List.getElem?_cons_succ] at t3 t6
  rw [HLE.out, HC3.out]
  go_wp2_with fail
  go_ret
  exact ⟨ret_b HX.out.symm, hS3.bel⟩
end Go.Proofs.YtlblfblkallnhaaGreatDoor
