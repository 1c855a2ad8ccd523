/- The walk of layout.Check. -/
import Derived.Test.YtopoknocfoiiaaaGreatDoorPlSig
namespace Go.Proofs.YtopoknocfoiiaaaGreatDoor
set_option linter.unusedVariables false
set_option linter.unusedSimpArgs false
open Go.RowKit
attribute [local go_sem] bs_size bs_get bs_append bs_extract bs_toList
attribute [-go_sem] run_equalIn_agg
theorem chk_cnt {l : Lay} (h : cntB l = false) : chkL l = 2 := by unfold chkL; rw [if_pos h]
theorem chk_nm {l : Lay} {c : Int} (h : cntB l = true) (h1 : nmC l = c) (h2 : c ≠ 0) : chkL l = c := by subst h1; unfold chkL; rw [if_neg (by simp [h]), if_pos h2]
theorem chk_el {l : Lay} (h : cntB l = true) (h1 : nmC l = 0) (h2 : elB l = false) : chkL l = 1 := by unfold chkL; rw [if_neg (by simp [h]), if_neg (by simp [h1]), if_pos h2]
theorem chk_jn {l : Lay} {c : Int} (h : cntB l = true) (h1 : nmC l = 0) (h2 : elB l = true) (h3 : jnC l = c) (h4 : c ≠ 0) : chkL l = c := by subst h3; unfold chkL; rw [if_neg (by simp [h]), if_neg (by simp [h1]), if_neg (by simp [h2]), if_pos h4]
theorem chk_sg {l : Lay} {c : Int} (h : cntB l = true) (h1 : nmC l = 0) (h2 : elB l = true) (h3 : jnC l = 0) (h4 : sgC l = c) (h5 : c ≠ 0) : chkL l = c := by subst h4; unfold chkL; rw [if_neg (by simp [h]), if_neg (by simp [h1]), if_neg (by simp [h2]), if_neg (by simp [h3]), if_pos h5]
theorem chk_bl {l : Lay} (h : cntB l = true) (h1 : nmC l = 0) (h2 : elB l = true) (h3 : jnC l = 0) (h4 : sgC l = 0) : chkL l = blC l := by unfold chkL; rw [if_neg (by simp [h]), if_neg (by simp [h1]), if_neg (by simp [h2]), if_neg (by simp [h3]), if_neg (by simp [h4])]
theorem cnt_b {l : Lay} (h : cntB l = true) : l.els.length ≤ 32 ∧ l.secs.length ≤ 24 ∧ l.sgs.length ≤ 20 ∧ l.bls.length ≤ 24 := by
  unfold cntB at h
  simp only [Bool.and_eq_true, inB_iff, decide_eq_true_eq] at h
  omega
set_option maxRecDepth 100000 in
set_option maxHeartbeats 16000000 in
theorem check_any (v : LV) (w : World) (E : EnvS w) (hr : LvR w v) (hm3 : v.l.jts.length ≤ 100000) : Calls Tryz.prog 11 #[lvA v] w fun e w' => e = .returned (.int .i64 (chkL v.l)) ∧ Below w.heap.size w w' := by
  have hb0 := Bx.new hr
  have x0 := hb0.x0
  have x1 := hb0.x1
  have x2 := hb0.x2
  have x3 := hb0.x3
  have x4 := hb0.x4
  have x5 := hb0.x5
  have H1 := Lib.hid fun W h => countsFit_any v W h
  have HJ3 := Lib.hid hm3
  clear hm3
  cases c0 : cntB v.l with
  | false =>
    have HX := Lib.hid (chk_cnt c0)
    rw [c0] at H1
    clear c0
    unfold lvA at * 
    go_enter Tryz.func11, Tryz.ntmps11
    go_wp2_with fail
    refine (H1.out _ hb0.rd).mono ?_
    rintro e w1 ⟨rfl, hq1⟩
    have hb1 := hb0.now hq1
    clear x0 x1 x2 x3 x4 x5 hq1 hb0
    have x0 := hb1.x0
    have x1 := hb1.x1
    have x2 := hb1.x2
    have x3 := hb1.x3
    have x4 := hb1.x4
    have x5 := hb1.x5
    go_wp2_with fail
    go_ret
    exact ⟨ret_iL HX.out.symm, hb1.bel⟩
  | true =>
    obtain ⟨hm2, hm1, hm4, hm5⟩ := cnt_b c0
    have H2 := Lib.hid fun W h => checkNames_any v W h (by omega) (by omega) (by omega)
    have H3 := Lib.hid fun W h => elementsFit_any v W h
    have H4 := Lib.hid fun W h => sectionsUsed_any v (by omega) W h
    have H5 := Lib.hid fun W E h => joinEnds_any v W E h HJ3.out
    have H6 := Lib.hid fun W E h B n he => checkSignals_any v W E h (by omega) B n he
    have H7 := Lib.hid fun W h => checkBalises_any v W h (by omega)
    rw [c0] at H1
    obtain ⟨c1, hc1⟩ : ∃ c, nmC v.l = c := ⟨_, rfl⟩
    rw [hc1] at H2
    by_cases h1 : c1 = 0
    case neg =>
      have HX := Lib.hid (chk_nm c0 hc1 h1)
      have hne : (c1 != 0) = true := by simpa using h1
      clear c0 hc1 h1 H3 H4 H5 H6 H7
      unfold lvA at * 
      go_enter Tryz.func11, Tryz.ntmps11
      go_wp2_with fail
      refine (H1.out _ hb0.rd).mono ?_
      rintro e w1 ⟨rfl, hq1⟩
      have hb1 := hb0.now hq1
      clear x0 x1 x2 x3 x4 x5 hq1 hb0
      have x0 := hb1.x0
      have x1 := hb1.x1
      have x2 := hb1.x2
      have x3 := hb1.x3
      have x4 := hb1.x4
      have x5 := hb1.x5
      go_wp2_with fail
      refine (H2.out _ hb1.rd).mono ?_
      rintro e w2 ⟨rfl, hq2⟩
      have hb2 := hb1.now hq2
      clear x0 x1 x2 x3 x4 x5 hq2 hb1
      have x0 := hb2.x0
      have x1 := hb2.x1
      have x2 := hb2.x2
      have x3 := hb2.x3
      have x4 := hb2.x4
      have x5 := hb2.x5
      go_wp2_with fail
      go_ret
      exact ⟨ret_iL HX.out.symm, hb2.bel⟩
    subst h1
    cases c2 : v.l.els.all (eltB v.l) with
    | false =>
      have HX := Lib.hid (chk_el c0 hc1 (by unfold elB; rw [c2]; rfl))
      rw [c2] at H3
      clear c0 hc1 c2 H4 H5 H6 H7
      unfold lvA at * 
      go_enter Tryz.func11, Tryz.ntmps11
      go_wp2_with fail
      refine (H1.out _ hb0.rd).mono ?_
      rintro e w1 ⟨rfl, hq1⟩
      have hb1 := hb0.now hq1
      clear x0 x1 x2 x3 x4 x5 hq1 hb0
      have x0 := hb1.x0
      have x1 := hb1.x1
      have x2 := hb1.x2
      have x3 := hb1.x3
      have x4 := hb1.x4
      have x5 := hb1.x5
      go_wp2_with fail
      refine (H2.out _ hb1.rd).mono ?_
      rintro e w2 ⟨rfl, hq2⟩
      have hb2 := hb1.now hq2
      clear x0 x1 x2 x3 x4 x5 hq2 hb1
      have x0 := hb2.x0
      have x1 := hb2.x1
      have x2 := hb2.x2
      have x3 := hb2.x3
      have x4 := hb2.x4
      have x5 := hb2.x5
      go_wp2_with fail
      refine (H3.out _ hb2.rd).mono ?_
      rintro e w3 ⟨rfl, hq3⟩
      have hb3 := hb2.now hq3
      clear x0 x1 x2 x3 x4 x5 hq3 hb2
      have x0 := hb3.x0
      have x1 := hb3.x1
      have x2 := hb3.x2
      have x3 := hb3.x3
      have x4 := hb3.x4
      have x5 := hb3.x5
      go_wp2_with fail
      go_ret
      exact ⟨ret_iL HX.out.symm, hb3.bel⟩
    | true =>
      rw [c2] at H3
      cases c3 : useB v.l with
      | false =>
        have HX := Lib.hid (chk_el c0 hc1 (by unfold elB; rw [c2, c3]; rfl))
        rw [c3] at H4
        clear c0 hc1 c2 c3 H5 H6 H7
        unfold lvA at * 
        go_enter Tryz.func11, Tryz.ntmps11
        go_wp2_with fail
        refine (H1.out _ hb0.rd).mono ?_
        rintro e w1 ⟨rfl, hq1⟩
        have hb1 := hb0.now hq1
        clear x0 x1 x2 x3 x4 x5 hq1 hb0
        have x0 := hb1.x0
        have x1 := hb1.x1
        have x2 := hb1.x2
        have x3 := hb1.x3
        have x4 := hb1.x4
        have x5 := hb1.x5
        go_wp2_with fail
        refine (H2.out _ hb1.rd).mono ?_
        rintro e w2 ⟨rfl, hq2⟩
        have hb2 := hb1.now hq2
        clear x0 x1 x2 x3 x4 x5 hq2 hb1
        have x0 := hb2.x0
        have x1 := hb2.x1
        have x2 := hb2.x2
        have x3 := hb2.x3
        have x4 := hb2.x4
        have x5 := hb2.x5
        go_wp2_with fail
        refine (H3.out _ hb2.rd).mono ?_
        rintro e w3 ⟨rfl, hq3⟩
        have hb3 := hb2.now hq3
        clear x0 x1 x2 x3 x4 x5 hq3 hb2
        have x0 := hb3.x0
        have x1 := hb3.x1
        have x2 := hb3.x2
        have x3 := hb3.x3
        have x4 := hb3.x4
        have x5 := hb3.x5
        go_wp2_with fail
        refine (H4.out _ hb3.rd).mono ?_
        rintro e w4 ⟨rfl, hq4⟩
        have hb4 := hb3.now hq4
        clear x0 x1 x2 x3 x4 x5 hq4 hb3
        have x0 := hb4.x0
        have x1 := hb4.x1
        have x2 := hb4.x2
        have x3 := hb4.x3
        have x4 := hb4.x4
        have x5 := hb4.x5
        go_wp2_with fail
        go_ret
        exact ⟨ret_iL HX.out.symm, hb4.bel⟩
      | true =>
        rw [c3] at H4
        have he : elB v.l = true := by unfold elB; rw [c2, c3]; rfl
        by_cases h5 : jnC v.l = 0
        case neg =>
          obtain ⟨c5, hc5⟩ : ∃ c, jnC v.l = c := ⟨_, rfl⟩
          have HX := Lib.hid (chk_jn c0 hc1 he hc5 (by rw [← hc5]; exact h5))
          have hne : (c5 != 0) = true := by rw [← hc5]; simpa using h5
          have HJP : Hid (∀ e w W', JoinPost w v.l e W' → e = .returned (.tuple #[.map none, .int .i64 c5]) ∧ Below w.heap.size w W') := Lib.hid fun e w W' h => by
            rcases h with ⟨_, h1, h2⟩ | ⟨h0, _⟩
            · exact ⟨by rw [← hc5]; exact h1, h2⟩
            · exact absurd h0 h5
          clear c0 hc1 c2 c3 he h5 hc5 H6 H7
          unfold lvA at * 
          go_enter Tryz.func11, Tryz.ntmps11
          go_wp2_with fail
          refine (H1.out _ hb0.rd).mono ?_
          rintro e w1 ⟨rfl, hq1⟩
          have hb1 := hb0.now hq1
          clear x0 x1 x2 x3 x4 x5 hq1 hb0
          have x0 := hb1.x0
          have x1 := hb1.x1
          have x2 := hb1.x2
          have x3 := hb1.x3
          have x4 := hb1.x4
          have x5 := hb1.x5
          go_wp2_with fail
          refine (H2.out _ hb1.rd).mono ?_
          rintro e w2 ⟨rfl, hq2⟩
          have hb2 := hb1.now hq2
          clear x0 x1 x2 x3 x4 x5 hq2 hb1
          have x0 := hb2.x0
          have x1 := hb2.x1
          have x2 := hb2.x2
          have x3 := hb2.x3
          have x4 := hb2.x4
          have x5 := hb2.x5
          go_wp2_with fail
          refine (H3.out _ hb2.rd).mono ?_
          rintro e w3 ⟨rfl, hq3⟩
          have hb3 := hb2.now hq3
          clear x0 x1 x2 x3 x4 x5 hq3 hb2
          have x0 := hb3.x0
          have x1 := hb3.x1
          have x2 := hb3.x2
          have x3 := hb3.x3
          have x4 := hb3.x4
          have x5 := hb3.x5
          go_wp2_with fail
          refine (H4.out _ hb3.rd).mono ?_
          rintro e w4 ⟨rfl, hq4⟩
          have hb4 := hb3.now hq4
          clear x0 x1 x2 x3 x4 x5 hq4 hb3
          have x0 := hb4.x0
          have x1 := hb4.x1
          have x2 := hb4.x2
          have x3 := hb4.x3
          have x4 := hb4.x4
          have x5 := hb4.x5
          go_wp2_with fail
          refine (H5.out _ (E.now hb4.bel) hb4.rd).mono ?_
          intro e w5 hpost
          obtain ⟨rfl, hq5⟩ := HJP.out _ _ _ hpost
          clear hpost
          have hb5 := hb4.now hq5
          clear x0 x1 x2 x3 x4 x5 hq5 hb4
          have x0 := hb5.x0
          have x1 := hb5.x1
          have x2 := hb5.x2
          have x3 := hb5.x3
          have x4 := hb5.x4
          have x5 := hb5.x5
          go_wp2_with fail
          go_ret
          exact ⟨ret_iL HX.out.symm, hb5.bel⟩
        have HJP : Hid (∀ e w W', JoinPost w v.l e W' → ∃ B n, e = .returned (.tuple #[.map (some B), .int .i64 0]) ∧ EndsW W' B n (joinedF v.l.jts) ∧ Below w.heap.size w W') := Lib.hid fun e w W' h => by
          rcases h with ⟨h0, _⟩ | ⟨_, h⟩
          · exact absurd h5 h0
          · exact h
        obtain ⟨c6, hc6⟩ : ∃ c, sgC v.l = c := ⟨_, rfl⟩
        rw [hc6] at H6
        by_cases h6 : c6 = 0
        case neg =>
          have HX := Lib.hid (chk_sg c0 hc1 he h5 hc6 h6)
          have hne : (c6 != 0) = true := by simpa using h6
          clear c0 hc1 c2 c3 he h5 hc6 h6 H7
          unfold lvA at * 
          go_enter Tryz.func11, Tryz.ntmps11
          go_wp2_with fail
          refine (H1.out _ hb0.rd).mono ?_
          rintro e w1 ⟨rfl, hq1⟩
          have hb1 := hb0.now hq1
          clear x0 x1 x2 x3 x4 x5 hq1 hb0
          have x0 := hb1.x0
          have x1 := hb1.x1
          have x2 := hb1.x2
          have x3 := hb1.x3
          have x4 := hb1.x4
          have x5 := hb1.x5
          go_wp2_with fail
          refine (H2.out _ hb1.rd).mono ?_
          rintro e w2 ⟨rfl, hq2⟩
          have hb2 := hb1.now hq2
          clear x0 x1 x2 x3 x4 x5 hq2 hb1
          have x0 := hb2.x0
          have x1 := hb2.x1
          have x2 := hb2.x2
          have x3 := hb2.x3
          have x4 := hb2.x4
          have x5 := hb2.x5
          go_wp2_with fail
          refine (H3.out _ hb2.rd).mono ?_
          rintro e w3 ⟨rfl, hq3⟩
          have hb3 := hb2.now hq3
          clear x0 x1 x2 x3 x4 x5 hq3 hb2
          have x0 := hb3.x0
          have x1 := hb3.x1
          have x2 := hb3.x2
          have x3 := hb3.x3
          have x4 := hb3.x4
          have x5 := hb3.x5
          go_wp2_with fail
          refine (H4.out _ hb3.rd).mono ?_
          rintro e w4 ⟨rfl, hq4⟩
          have hb4 := hb3.now hq4
          clear x0 x1 x2 x3 x4 x5 hq4 hb3
          have x0 := hb4.x0
          have x1 := hb4.x1
          have x2 := hb4.x2
          have x3 := hb4.x3
          have x4 := hb4.x4
          have x5 := hb4.x5
          go_wp2_with fail
          refine (H5.out _ (E.now hb4.bel) hb4.rd).mono ?_
          intro e w5 hpost
          obtain ⟨B, n, rfl, hE5, hq5⟩ := HJP.out _ _ _ hpost
          clear hpost
          have hb5 := hb4.now hq5
          clear x0 x1 x2 x3 x4 x5 hq5 hb4
          have x0 := hb5.x0
          have x1 := hb5.x1
          have x2 := hb5.x2
          have x3 := hb5.x3
          have x4 := hb5.x4
          have x5 := hb5.x5
          go_wp2_with fail
          refine (H6.out _ (E.now hb5.bel) hb5.rd B n hE5).mono ?_
          rintro e w6 ⟨rfl, hq6⟩
          clear hE5
          have hb6 := hb5.now hq6
          clear x0 x1 x2 x3 x4 x5 hq6 hb5
          have x0 := hb6.x0
          have x1 := hb6.x1
          have x2 := hb6.x2
          have x3 := hb6.x3
          have x4 := hb6.x4
          have x5 := hb6.x5
          go_wp2_with fail
          go_ret
          exact ⟨ret_iL HX.out.symm, hb6.bel⟩
        subst h6
        have HX := Lib.hid (chk_bl c0 hc1 he h5 hc6)
        clear c0 hc1 c2 c3 he h5 hc6
        unfold lvA at * 
        go_enter Tryz.func11, Tryz.ntmps11
        go_wp2_with fail
        refine (H1.out _ hb0.rd).mono ?_
        rintro e w1 ⟨rfl, hq1⟩
        have hb1 := hb0.now hq1
        clear x0 x1 x2 x3 x4 x5 hq1 hb0
        have x0 := hb1.x0
        have x1 := hb1.x1
        have x2 := hb1.x2
        have x3 := hb1.x3
        have x4 := hb1.x4
        have x5 := hb1.x5
        go_wp2_with fail
        refine (H2.out _ hb1.rd).mono ?_
        rintro e w2 ⟨rfl, hq2⟩
        have hb2 := hb1.now hq2
        clear x0 x1 x2 x3 x4 x5 hq2 hb1
        have x0 := hb2.x0
        have x1 := hb2.x1
        have x2 := hb2.x2
        have x3 := hb2.x3
        have x4 := hb2.x4
        have x5 := hb2.x5
        go_wp2_with fail
        refine (H3.out _ hb2.rd).mono ?_
        rintro e w3 ⟨rfl, hq3⟩
        have hb3 := hb2.now hq3
        clear x0 x1 x2 x3 x4 x5 hq3 hb2
        have x0 := hb3.x0
        have x1 := hb3.x1
        have x2 := hb3.x2
        have x3 := hb3.x3
        have x4 := hb3.x4
        have x5 := hb3.x5
        go_wp2_with fail
        refine (H4.out _ hb3.rd).mono ?_
        rintro e w4 ⟨rfl, hq4⟩
        have hb4 := hb3.now hq4
        clear x0 x1 x2 x3 x4 x5 hq4 hb3
        have x0 := hb4.x0
        have x1 := hb4.x1
        have x2 := hb4.x2
        have x3 := hb4.x3
        have x4 := hb4.x4
        have x5 := hb4.x5
        go_wp2_with fail
        refine (H5.out _ (E.now hb4.bel) hb4.rd).mono ?_
        intro e w5 hpost
        obtain ⟨B, n, rfl, hE5, hq5⟩ := HJP.out _ _ _ hpost
        clear hpost
        have hb5 := hb4.now hq5
        clear x0 x1 x2 x3 x4 x5 hq5 hb4
        have x0 := hb5.x0
        have x1 := hb5.x1
        have x2 := hb5.x2
        have x3 := hb5.x3
        have x4 := hb5.x4
        have x5 := hb5.x5
        go_wp2_with fail
        refine (H6.out _ (E.now hb5.bel) hb5.rd B n hE5).mono ?_
        rintro e w6 ⟨rfl, hq6⟩
        clear hE5
        have hb6 := hb5.now hq6
        clear x0 x1 x2 x3 x4 x5 hq6 hb5
        have x0 := hb6.x0
        have x1 := hb6.x1
        have x2 := hb6.x2
        have x3 := hb6.x3
        have x4 := hb6.x4
        have x5 := hb6.x5
        go_wp2_with fail
        refine (H7.out _ hb6.rd).mono ?_
        rintro e w7 ⟨rfl, hq7⟩
        have hb7 := hb6.now hq7
        clear x0 x1 x2 x3 x4 x5 hq7 hb6
        have x0 := hb7.x0
        have x1 := hb7.x1
        have x2 := hb7.x2
        have x3 := hb7.x3
        have x4 := hb7.x4
        have x5 := hb7.x5
        go_wp2_with fail
        go_ret
        exact ⟨ret_iL HX.out.symm, hb7.bel⟩
theorem checkC {l : Lay} {c : Int} (v : LV) (hv : v.l = l) (h : chkL l = c) (w : World) (E : EnvS w) (hr : LvR w v) (hm3 : v.l.jts.length ≤ 100000) : Calls Tryz.prog 11 #[lvA v] w fun e w' => e = .returned (.int .i64 c) ∧ Below w.heap.size w w' := by
  subst hv; subst h; exact check_any v w E hr hm3
end Go.Proofs.YtopoknocfoiiaaaGreatDoor
