/- The walk of the law TabletextLines. -/
import Derived.Test.YtlblfblkallnhaaGreatDoorTbAliveB
namespace Go.Proofs.YtlblfblkallnhaaGreatDoor
set_option linter.unusedVariables false
set_option linter.unusedSimpArgs false
open Go.RowKit
attribute [local go_sem] bs_size bs_get bs_append bs_extract bs_toList
attribute [-go_sem] run_equalIn_agg
theorem fewC {v : TabV} {r : Bool} (h : fewT v.t = r) (w : World) (hr : TvR w v) : Calls Tryz.prog 8 #[tvA v] w fun e w' => e = .returned (.bool r) ∧ Below w.heap.size w w' := h ▸ few_any v w hr
theorem few_sh {t : Tab} (h : fewT t = true) : t.rts.length ≤ 60 ∧ t.pts.length ≤ 60 ∧ t.homes.length ≤ 60 ∧ ∀ r ∈ t.rts, ShR r := by
  unfold fewT at h
  simp only [Bool.and_eq_true, decide_eq_true_eq] at h
  refine ⟨h.1, h.2.1, h.2.2.1, fun r hr => ?_⟩
  have h2 := fewR_iff.1 (List.all_eq_true.1 h.2.2.2 r hr)
  unfold ShR
  omega
theorem prt_err {t : Tab} {s : List UInt8} {x : Int} (h : prtT t = (s, x)) (hx : x ≠ 0) : s = [] := by
  unfold prtT at h
  split at h
  · exact joinF_err h hx
  · exact (Prod.mk.inj h).1.symm
theorem prt_len {t : Tab} {s : List UInt8} {x : Int} (h : prtT t = (s, x)) : s.length ≤ 32768 := by
  by_cases hx : x = 0
  · subst hx
    obtain ⟨_, hj⟩ := prt_chk h
    unfold joinF at hj
    repeat' (split at hj)
    all_goals (simp only [Prod.mk.injEq] at hj; obtain ⟨h1, h2⟩ := hj; subst h1)
    all_goals first
      | simp
      | omega
  · rw [prt_err h hx]; simp
set_option maxHeartbeats 2000000 in
theorem count_any (n c : Nat) (h : min n 1 = c) (w : World) : Calls Tryz.prog 16 #[.int .i64 n] w fun e w' => e = .returned (.int .i64 c) ∧ w' = w := by
  by_cases h0 : n = 0
  · subst h0
    obtain rfl : c = 0 := by omega
    go_enter Tryz.func16, Tryz.ntmps16
    go_wp2_with fail
    all_goals (go_ret; exact ⟨by first | rfl | (simp; done), rfl⟩)
  · obtain rfl : c = 1 := by omega
    have h1 : ¬ (n : Int) < 1 := by omega
    have h2 : min (n : Int) 1 = 1 := by omega
    clear h h0
    go_enter Tryz.func16, Tryz.ntmps16
    go_wp2_with fail
    all_goals first
      | (go_ret; exact ⟨by first | rfl | (rw [h2]; done) | (simp [h2]; done), rfl⟩)
      | (go_ret; refine ⟨?_, rfl⟩; congr 2; omega)
      | (exfalso; omega)
theorem cntR_eq (r : Rou) : cntR r = 1 + min r.path.length 1 + min r.pts.length 1 + min r.secs.length 1 + min r.over.length 1 + min r.opts.length 1 + min r.osecs.length 1 + min r.flk.length 1 + min r.grd.length 1 + min r.gap.length 1 := rfl
theorem sumR_le : ∀ l : List Rou, sumR l ≤ l.length * 10
  | [] => by simp [sumR]
  | r :: l => by
    have h := sumR_le l
    have h2 := cntR_eq r
    have e : sumR (r :: l) = cntR r + sumR l := by simp [sumR]
    rw [e, List.length_cons, Nat.succ_mul]
    omega
set_option maxRecDepth 100000 in
set_option maxHeartbeats 16000000 in
theorem tabletextLines_walk (v : TabV) (w : World) (E : EnvR w) (hv : TvR w v) : Calls Tryz.prog 6 #[tvA v] w (True1 w) := by
  have hb0 := Bx.new hv
  have x0 := hb0.x0
  have x1 := hb0.x1
  have x2 := hb0.x2
  have x3 := hb0.x3
  have x4 := hb0.x4
  have HE := Lib.hid E
  clear E hv
  cases hf : fewT v.t with
  | false =>
    have HF := Lib.hid fun W h => fewC hf W h
    clear hf
    unfold tvA at *
    go_enter Tryz.func6, Tryz.ntmps6
    go_wp2_with fail
    refine (HF.out _ hb0.rd).mono ?_
    rintro e w1 ⟨rfl, hq1⟩
    have hb1 := hb0.now hq1
    clear x0 x1 x2 x3 x4 hb0 hq1
    go_wp2_with fail
    refine (alive_any _ (HE.out.now hb1.bel)).mono ?_
    rintro e w2 ⟨rfl, hq2⟩
    have hz := hb1.now hq2
    go_wp2_with fail
    go_ret
    exact ⟨rfl, hz.bel⟩
  | true =>
    have HF := Lib.hid fun W h => fewC hf W h
    obtain ⟨f1, f2, f3, f4⟩ := few_sh hf
    obtain ⟨⟨s, x⟩, hp⟩ : ∃ r, prtT v.t = r := ⟨_, rfl⟩
    have HPR := Lib.hid fun W E h => tprintC hp W E h f4
    have hsl := prt_len hp
    clear hf
    by_cases hx : x = 0
    case neg =>
      obtain rfl := prt_err hp hx
      have hxb : (x != 0) = true := by simpa using hx
      clear hx hp f4
      unfold tvA at *
      go_enter Tryz.func6, Tryz.ntmps6
      go_wp2_with fail
      refine (HF.out _ hb0.rd).mono ?_
      rintro e w1 ⟨rfl, hq1⟩
      have hb1 := hb0.now hq1
      clear x0 x1 x2 x3 x4 hb0 hq1
      have x0 := hb1.x0
      have x1 := hb1.x1
      have x2 := hb1.x2
      have x3 := hb1.x3
      have x4 := hb1.x4
      go_wp2_with fail
      refine (HPR.out _ (HE.out.now hb1.bel) hb1.rd).mono ?_
      rintro e w2 ⟨rfl, hq2⟩
      have hb2 := hb1.now hq2
      clear x0 x1 x2 x3 x4 hb1 hq2
      go_wp2_with fail
      refine (alive_any _ (HE.out.now hb2.bel)).mono ?_
      rintro e w3 ⟨rfl, hq3⟩
      have hz := hb2.now hq3
      go_wp2_with fail
      go_ret
      exact ⟨rfl, hz.bel⟩
    case pos =>
      subst hx
      obtain ⟨hchk, hj⟩ := prt_chk hp
      have HLL := Lib.hid (linesT_len (pts_len hchk))
      have HLN := Lib.hid fun W E => lnC (lines_join hj) W E (by unfold maxLen; omega : s.length ≤ maxLen)
      clear hp f4 hchk hj
      unfold tvA at *
      go_enter Tryz.func6, Tryz.ntmps6
      go_wp2_with fail
      refine (HF.out _ hb0.rd).mono ?_
      rintro e w1 ⟨rfl, hq1⟩
      have hb1 := hb0.now hq1
      clear x0 x1 x2 x3 x4 hb0 hq1
      have x0 := hb1.x0
      have x1 := hb1.x1
      have x2 := hb1.x2
      have x3 := hb1.x3
      have x4 := hb1.x4
      go_wp2_with fail
      refine (HPR.out _ (HE.out.now hb1.bel) hb1.rd).mono ?_
      rintro e w2 ⟨rfl, hq2⟩
      have hb2 := hb1.now hq2
      clear x0 x1 x2 x3 x4 hb1 hq2
      have x1 := hb2.x1
      have hpn : (v.t.pts.length : Int) ≤ 60 := by omega
      have HN0 : Hid ((1 : Int) + (v.t.pts.length : Int) = ((1 + v.t.pts.length + sumR (v.t.rts.take 0) : Nat) : Int)) := Lib.hid (by simp [sumR])
      go_wp2_with fail
      clear x1
      go_loopw [5, 6] (fun n i wr => ∃ k : Nat, k ≤ v.t.rts.length ∧ i = .int .i64 k ∧ n = .int .i64 ((1 + v.t.pts.length + sumR (v.t.rts.take k) : Nat) : Int) ∧ Bx w wr v) (fun _ i _ => v.t.rts.length - (intOf i).toNat)
      case atStart => exact ⟨0, Nat.zero_le _, rfl, by rw [← HN0.out], hb2⟩
      case round =>
        clear hb2
        obtain ⟨k, hk, rfl, rfl, hb⟩ := hrel
        have x0 := hb.x0
        by_cases hlt : k < v.t.rts.length
        · have hki : (k : Int) < (v.t.rts.length : Int) := by omega
          obtain ⟨b, off, r, hA, lb, hre, hrv, y0, y1, y2, y3, y4, y5, y6, y7, y8, y9, y10, y11, y12, y13⟩ := hb.rd.r1.elR hlt
          have hsm := sumR_take hlt
          have hsl2 := sumR_le (v.t.rts.take k)
          rw [List.length_take] at hsl2
          rw [show v.t.rts[k] = r.r from hre.symm, cntR_eq] at hsm
          have hb3 := hb.alloc (.cells #[.string (bs r.r.name), .int .i64 r.r.ent, .int .i64 r.r.ext, .slice r.A1 r.r.path.length r.c1, .slice r.A2 r.r.pts.length r.c2, .slice r.A3 r.r.secs.length r.c3, .int .i64 r.r.app, .int .i64 r.r.len, .slice r.A4 r.r.over.length r.c4, .slice r.A5 r.r.opts.length r.c5, .slice r.A6 r.r.osecs.length r.c6, .slice r.A7 r.r.flk.length r.c7, .slice r.A8 r.r.grd.length r.c8, .slice r.A9 r.r.gap.length r.c9] 41)
          have hbk : Blk (wr.alloc (.cells #[.string (bs r.r.name), .int .i64 r.r.ent, .int .i64 r.r.ext, .slice r.A1 r.r.path.length r.c1, .slice r.A2 r.r.pts.length r.c2, .slice r.A3 r.r.secs.length r.c3, .int .i64 r.r.app, .int .i64 r.r.len, .slice r.A4 r.r.over.length r.c4, .slice r.A5 r.r.opts.length r.c5, .slice r.A6 r.r.osecs.length r.c6, .slice r.A7 r.r.flk.length r.c7, .slice r.A8 r.r.grd.length r.c8, .slice r.A9 r.r.gap.length r.c9] 41)) wr.heap.size 41 #[.string (bs r.r.name), .int .i64 r.r.ent, .int .i64 r.r.ext, .slice r.A1 r.r.path.length r.c1, .slice r.A2 r.r.pts.length r.c2, .slice r.A3 r.r.secs.length r.c3, .int .i64 r.r.app, .int .i64 r.r.len, .slice r.A4 r.r.over.length r.c4, .slice r.A5 r.r.opts.length r.c5, .slice r.A6 r.r.osecs.length r.c6, .slice r.A7 r.r.flk.length r.c7, .slice r.A8 r.r.grd.length r.c8, .slice r.A9 r.r.gap.length r.c9] := Blk.new _ _ _ _ rfl
          obtain ⟨m0, hm0⟩ : ∃ m, min r.r.path.length 1 = m := ⟨_, rfl⟩
          have HC0 := Lib.hid fun W => count_any r.r.path.length m0 hm0 W
          have hc0 : (m0 : Int) ≤ 1 := by omega
          obtain ⟨m1, hm1⟩ : ∃ m, min r.r.pts.length 1 = m := ⟨_, rfl⟩
          have HC1 := Lib.hid fun W => count_any r.r.pts.length m1 hm1 W
          have hc1 : (m1 : Int) ≤ 1 := by omega
          obtain ⟨m2, hm2⟩ : ∃ m, min r.r.secs.length 1 = m := ⟨_, rfl⟩
          have HC2 := Lib.hid fun W => count_any r.r.secs.length m2 hm2 W
          have hc2 : (m2 : Int) ≤ 1 := by omega
          obtain ⟨m3, hm3⟩ : ∃ m, min r.r.over.length 1 = m := ⟨_, rfl⟩
          have HC3 := Lib.hid fun W => count_any r.r.over.length m3 hm3 W
          have hc3 : (m3 : Int) ≤ 1 := by omega
          obtain ⟨m4, hm4⟩ : ∃ m, min r.r.opts.length 1 = m := ⟨_, rfl⟩
          have HC4 := Lib.hid fun W => count_any r.r.opts.length m4 hm4 W
          have hc4 : (m4 : Int) ≤ 1 := by omega
          obtain ⟨m5, hm5⟩ : ∃ m, min r.r.osecs.length 1 = m := ⟨_, rfl⟩
          have HC5 := Lib.hid fun W => count_any r.r.osecs.length m5 hm5 W
          have hc5 : (m5 : Int) ≤ 1 := by omega
          obtain ⟨m6, hm6⟩ : ∃ m, min r.r.flk.length 1 = m := ⟨_, rfl⟩
          have HC6 := Lib.hid fun W => count_any r.r.flk.length m6 hm6 W
          have hc6 : (m6 : Int) ≤ 1 := by omega
          obtain ⟨m7, hm7⟩ : ∃ m, min r.r.grd.length 1 = m := ⟨_, rfl⟩
          have HC7 := Lib.hid fun W => count_any r.r.grd.length m7 hm7 W
          have hc7 : (m7 : Int) ≤ 1 := by omega
          obtain ⟨m8, hm8⟩ : ∃ m, min r.r.gap.length 1 = m := ⟨_, rfl⟩
          have HC8 := Lib.hid fun W => count_any r.r.gap.length m8 hm8 W
          have hc8 : (m8 : Int) ≤ 1 := by omega
          rw [hm0, hm1, hm2, hm3, hm4, hm5, hm6, hm7, hm8] at hsm
          obtain ⟨N0, hN0⟩ : ∃ N, 1 + v.t.pts.length + sumR (v.t.rts.take k) = N := ⟨_, rfl⟩
          have HN1 : Hid (1 + v.t.pts.length + sumR (v.t.rts.take (k + 1)) = N0 + 1 + m0 + m1 + m2 + m3 + m4 + m5 + m6 + m7 + m8) := Lib.hid (by omega)
          rw [hN0]
          have hN0b : (N0 : Int) ≤ 1000 := by omega
          clear hN0 hsm hsl2 hm0 hm1 hm2 hm3 hm4 hm5 hm6 hm7 hm8 hrv hre
          rw [hA] at x0 ⊢
          clear hA
          have HB3 := Lib.hid hb3
          have z3 := hbk.cell 3
          clear hb3 hb
          go_wp2_with fail
          generalize wr.alloc (.cells #[.string (bs r.r.name), .int .i64 r.r.ent, .int .i64 r.r.ext, .slice r.A1 r.r.path.length r.c1, .slice r.A2 r.r.pts.length r.c2, .slice r.A3 r.r.secs.length r.c3, .int .i64 r.r.app, .int .i64 r.r.len, .slice r.A4 r.r.over.length r.c4, .slice r.A5 r.r.opts.length r.c5, .slice r.A6 r.r.osecs.length r.c6, .slice r.A7 r.r.flk.length r.c7, .slice r.A8 r.r.grd.length r.c8, .slice r.A9 r.r.gap.length r.c9] 41) = W3 at *
          clear y0 y1 y2 y3 y4 y5 y6 y7 y8 y9 y10 y11 y12 y13 x0 z3
          have z3 := hbk.cell 3
          have z4 := hbk.cell 4
          have z5 := hbk.cell 5
          have z8 := hbk.cell 8
          have z9 := hbk.cell 9
          have z10 := hbk.cell 10
          have z11 := hbk.cell 11
          have z12 := hbk.cell 12
          have z13 := hbk.cell 13
          simp only [List.getElem?_toArray, List.getElem?_cons_zero, List.getElem?_cons_succ] at z3 z4 z5 z8 z9 z10 z11 z12 z13
          (refine wp_region_quiet_lit (by kernel_rfl) (by kernel_rfl) ?_; (repeat (any_goals (first | go_big_quiet_step ((first | (go_at_call 16; first | (with_reducible exact Calls.quiet_of_same (HC0.out _)) | (with_reducible exact Calls.quiet_of_same (HC1.out _)) | (with_reducible exact Calls.quiet_of_same (HC2.out _)) | (with_reducible exact Calls.quiet_of_same (HC3.out _)) | (with_reducible exact Calls.quiet_of_same (HC4.out _)) | (with_reducible exact Calls.quiet_of_same (HC5.out _)) | (with_reducible exact Calls.quiet_of_same (HC6.out _)) | (with_reducible exact Calls.quiet_of_same (HC7.out _)) | (with_reducible exact Calls.quiet_of_same (HC8.out _))))) | quiet_step ((first | (go_at_call 16; first | (with_reducible exact Calls.quiet_of_same (HC0.out _)) | (with_reducible exact Calls.quiet_of_same (HC1.out _)) | (with_reducible exact Calls.quiet_of_same (HC2.out _)) | (with_reducible exact Calls.quiet_of_same (HC3.out _)) | (with_reducible exact Calls.quiet_of_same (HC4.out _)) | (with_reducible exact Calls.quiet_of_same (HC5.out _)) | (with_reducible exact Calls.quiet_of_same (HC6.out _)) | (with_reducible exact Calls.quiet_of_same (HC7.out _)) | (with_reducible exact Calls.quiet_of_same (HC8.out _))))) | (refine wpQuiet_step (fun K hK => ?_); go_simp; split <;> (refine hK _ ?_; clear hK K))))); all_goals (refine wpQuiet_nil ?_; intro _ hw'; obtain ⟨nq, hw''⟩ := hw'; subst hw''))
          all_goals (go_wp2_with fail)
          all_goals go_roundw
          case rel => exact ⟨k + 1, by omega, by go_num, by rw [HN1.out]; first | (congr 1; done) | (congr 1; push_cast; omega), HB3.out.now (Below.drewN (Below.refl _ _) _)⟩
          case measure => simp [intOf]; omega
        · obtain rfl : k = v.t.rts.length := by omega
          have HNN : Hid (1 + v.t.pts.length + sumR (v.t.rts.take v.t.rts.length) = (linesT v.t).length) := Lib.hid (by rw [List.take_length, HLL.out])
          rw [HNN.out]
          have hll : (linesT v.t).length ≤ 32768 := by rw [HLL.out]; have := sumR_le v.t.rts; omega
          go_wp2_with fail
          refine (HLN.out _ (HE.out.toEnv.now hb.bel)).mono ?_
          rintro e w5 ⟨A, cap, rfl, hml, hrd, hq5⟩
          have hb5 := hb.now hq5
          clear hb hq5 hrd hml x0
          dsimp only
          go_wp2_with fail
          refine (alive_any _ (HE.out.now hb5.bel)).mono ?_
          rintro e w6 ⟨rfl, hq6⟩
          have hz := hb5.now hq6
          go_wp2_with fail
          go_ret
          exact ⟨rfl, hz.bel⟩
end Go.Proofs.YtlblfblkallnhaaGreatDoor
