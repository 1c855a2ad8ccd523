/- The walk of the law PlanLines. -/
import Derived.Test.YtopoknocfoiiaaaDoorPlLawR
namespace Go.Proofs.YtopoknocfoiiaaaDoor
set_option linter.unusedVariables false
set_option linter.unusedSimpArgs false
open Go.RowKit
attribute [local go_sem] bs_size bs_get bs_append bs_extract bs_toList
attribute [-go_sem] run_equalIn_agg
def hdE (x : List (List UInt8)) : Bool := isEl (x.headD [])
theorem filter_step {ms : Lns} {k : Nat} (h : k < ms.length) : ((ms.take (k + 1)).filter hdE).length = ((ms.take k).filter hdE).length + if hdE ms[k] then 1 else 0 := by
  rw [List.take_succ_eq_append_getElem h, List.filter_append, List.length_append]
  cases hd : hdE ms[k] <;> simp [hd]
theorem head_cases {w : List UInt8} (h : isEl w = true ∨ isOt w = true) : (isEl w = true ∧ (w = trackW ∨ w = pointsW ∨ w = crossW)) ∨ (isEl w = false ∧ (w = layoutW ∨ w = sectionW ∨ w = jointW ∨ w = signalW ∨ w = baliseW)) := by
  by_cases h1 : w = trackW ∨ w = pointsW ∨ w = crossW
  · exact Or.inl ⟨by unfold isEl; rcases h1 with rfl | rfl | rfl <;> simp, h1⟩
  · have hf : isEl w = false := by unfold isEl; simp only [not_or] at h1; simp [h1]
    refine Or.inr ⟨hf, ?_⟩
    rcases h with h | h
    · rw [hf] at h; cases h
    · unfold isOt at h; simpa using h
theorem linesC2 {l : Lay} {t : List UInt8} (h : prtL l = (t, 0)) (hc : chkL l = 0) (w : World) (E : Env w) (hs : t.length ≤ maxLen) : Calls Tryd.prog 12 #[.string (bs t)] w (LinesPost w (linesL l, 0, 0)) := by
  have h2 : joinF (linesL l) = (t, 0) := by
    unfold prtL at h
    rwa [if_pos hc] at h
  exact lnC (lines_join h2) w E hs
set_option maxRecDepth 100000 in
set_option maxHeartbeats 16000000 in
theorem planLines_walk (v : LV) (w : World) (E : EnvS w) (hv : LvR w v) : Calls Tryd.prog 4 #[lvA v] w (True1 w) := by
  have hb0 := Bx.new hv
  have x0 := hb0.x0
  have x1 := hb0.x1
  have x2 := hb0.x2
  have x3 := hb0.x3
  have x4 := hb0.x4
  have x5 := hb0.x5
  cases hf : fewB v.l with
  | false =>
    have HF := Lib.hid fun W h => fewC hf W h
    clear hf hv
    unfold lvA at *
    go_enter Tryd.func4, Tryd.ntmps4
    go_wp2_with fail
    refine (HF.out _ hb0.rd).mono ?_
    rintro e w1 ⟨rfl, hq1⟩
    have hb1 := hb0.now hq1
    clear x0 x1 x2 x3 x4 x5
    go_wp2_with fail
    refine (alive_any _ (E.now hb1.bel)).mono ?_
    rintro e w2 ⟨rfl, hq2⟩
    have hz := hb1.now hq2
    go_wp2_with fail
    go_ret
    exact ⟨rfl, hz.bel⟩
  | true =>
    have HF := Lib.hid fun W h => fewC hf W h
    obtain ⟨f1, f2, f3, f4, f5⟩ := fewB_iff.1 hf
    clear hf
    by_cases hc : chkL v.l = 0
    case neg =>
      obtain ⟨c, hcc⟩ : ∃ c, chkL v.l = c := ⟨_, rfl⟩
      have hpt := prt_no hcc (by rw [← hcc]; exact hc)
      have hcb2 : (c != 0) = true := by rw [← hcc]; simpa using hc
      have HPR := Lib.hid fun W E h => printC hpt W E h (by omega)
      clear hpt hcc hc hv
      unfold lvA at *
      go_enter Tryd.func4, Tryd.ntmps4
      go_wp2_with fail
      refine (HF.out _ hb0.rd).mono ?_
      rintro e w1 ⟨rfl, hq1⟩
      have hb1 := hb0.now hq1
      clear x0 x1 x2 x3 x4 x5
      have x0 := hb1.x0
      have x1 := hb1.x1
      have x2 := hb1.x2
      have x3 := hb1.x3
      have x4 := hb1.x4
      have x5 := hb1.x5
      go_wp2_with fail
      refine (HPR.out _ (E.now hb1.bel) hb1.rd).mono ?_
      rintro e w2 ⟨rfl, hq2⟩
      have hb2 := hb1.now hq2
      clear x0 x1 x2 x3 x4 x5
      go_wp2_with fail
      refine (alive_any _ (E.now hb2.bel)).mono ?_
      rintro e w3 ⟨rfl, hq3⟩
      have hz := hb2.now hq3
      go_wp2_with fail
      go_ret
      exact ⟨rfl, hz.bel⟩
    case pos =>
      obtain ⟨t, hpt⟩ := prt_ok hc f2
      have htl := prt_len hpt
      have HPR := Lib.hid fun W E h => printC hpt W E h (by omega)
      have hll := fun W E => linesC2 hpt hc W E (by unfold maxLen; omega)
      obtain ⟨hh1, hh2⟩ := heads_ok hc
      have hlen := lines_len v.l
      obtain ⟨ms, hms⟩ : ∃ ms, linesL v.l = ms := ⟨_, rfl⟩
      rw [hms] at hll hh1 hh2 hlen
      have HLL := Lib.hid hll
      have HH1 := Lib.hid hh1
      have hsum : ((ms.length : Int) != 1 + (v.l.secs.length : Int) + v.l.els.length + v.l.jts.length + v.l.sgs.length + v.l.bls.length) = false := by
        rw [hlen]; simp
      have hm400 : ms.length ≤ 400 := by omega
      have HH2 : Hid ((ms.filter hdE).length = v.l.els.length) := Lib.hid hh2
      clear hpt htl hc hv hll hh1 hh2 hlen hms
      unfold lvA at *
      go_enter Tryd.func4, Tryd.ntmps4
      go_wp2_with fail
      refine (HF.out _ hb0.rd).mono ?_
      rintro e w1 ⟨rfl, hq1⟩
      have hb1 := hb0.now hq1
      clear x0 x1 x2 x3 x4 x5
      have x0 := hb1.x0
      have x1 := hb1.x1
      have x2 := hb1.x2
      have x3 := hb1.x3
      have x4 := hb1.x4
      have x5 := hb1.x5
      go_wp2_with fail
      refine (HPR.out _ (E.now hb1.bel) hb1.rd).mono ?_
      rintro e w2 ⟨rfl, hq2⟩
      have hb2 := hb1.now hq2
      clear x0 x1 x2 x3 x4 x5
      go_wp2_with fail
      refine (HLL.out _ (E.toEnvR.toEnv.now hb2.bel)).mono ?_
      rintro e w3 ⟨A, cap, rfl, hml, hrd, hq3⟩
      have hb3 := hb2.now hq3
      have x0 := hb3.x0
      have x1 := hb3.x1
      have x2 := hb3.x2
      have x3 := hb3.x3
      have x4 := hb3.x4
      have x5 := hb3.x5
      dsimp only at hml hrd ⊢
      go_wp2_with fail
      go_loopw [8, 9] (fun n i wr => ∃ k : Nat, k ≤ ms.length ∧ i = .int .i64 k ∧ n = .int .i64 ((((ms.take k).filter hdE).length : Nat) : Int) ∧ wr = w3) (fun _ i _ => ms.length - (intOf i).toNat)
      case atStart => exact ⟨0, Nat.zero_le _, rfl, by simp, rfl⟩
      case round =>
        obtain ⟨k, hk, rfl, rfl, rfl⟩ := hrel
        by_cases hlt : k < ms.length
        · have hki : (k : Int) < (ms.length : Int) := by omega
          obtain ⟨b, off, A', cap', hA, y0, hcap, hr'⟩ := elL hrd hlt
          have hst := filter_step hlt
          have hne := head_cases (HH1.out _ (List.getElem_mem hlt))
          have hle : ((ms.take k).filter hdE).length ≤ k := Nat.le_trans (List.length_filter_le _ _) (by simp; omega)
          cases hmk : ms[k] with
          | nil =>
            rw [hmk] at hne
            rcases hne with ⟨h, _⟩ | ⟨_, h⟩
            · simp [isEl, trackW, pointsW, crossW] at h
            · rcases h with h | h | h | h | h <;> simp [layoutW, sectionW, jointW, signalW, baliseW] at h
          | cons word rest =>
            rw [hmk] at hne hst y0 hcap hr'
            obtain ⟨b2, off2, hA2, _, _, y1⟩ := hr'.elS (i := 0) (by simp)
            simp only [List.headD_cons] at hne
            rw [hA]
            rw [hA2] at y0
            have hz0 : (0 : Int) < ((word :: rest).length : Int) := (Int.natCast_pos.2 (by simp))
            have HST := Lib.hid hst
            have hy1 : wr.cell? ⟨b2, off2, none⟩ = some (.string (bs word)) := y1
            obtain ⟨cn, hcn⟩ : ∃ cn, ((ms.take k).filter hdE).length = cn := ⟨_, rfl⟩
            have HCN := Lib.hid hcn
            rw [hcn] at hle ⊢
            clear hst hmk hcap hr' hA hA2 y1 hcn
            rcases hne with ⟨he, hw⟩ | ⟨he, hw⟩
            · have HE : Hid (((ms.take (k + 1)).filter hdE).length = cn + 1) := Lib.hid (by rw [HST.out, HCN.out, show hdE (word :: rest) = _ from he]; rfl)
              clear he
              rcases hw with rfl | rfl | rfl
              all_goals
                go_wp2_with fail
                go_roundw
                case rel => exact ⟨k + 1, by omega, by go_num, by rw [HE.out]; go_num, by first | rfl | trivial⟩
                case measure => simp [intOf]; omega
            · have HE : Hid (((ms.take (k + 1)).filter hdE).length = cn) := Lib.hid (by rw [HST.out, HCN.out, show hdE (word :: rest) = _ from he]; rfl)
              clear he
              rcases hw with rfl | rfl | rfl | rfl | rfl
              all_goals
                go_wp2_with fail
                go_roundw
                case rel => exact ⟨k + 1, by omega, by go_num, by rw [HE.out], by first | rfl | trivial⟩
                case measure => simp [intOf]; omega
        · rw [List.take_of_length_le (by omega), HH2.out]
          go_wp2_with fail
          refine (alive_any _ (E.now hb3.bel)).mono ?_
          rintro e w4 ⟨rfl, hq4⟩
          have hz := hb3.now hq4
          go_wp2_with fail
          go_ret
          exact ⟨rfl, hz.bel⟩
end Go.Proofs.YtopoknocfoiiaaaDoor
