/- The walk of the reference's check on profiles. -/
import Derived.Test.YtfmfadafpbnjoaaDoorTnWalksE
namespace Go.Proofs.YtfmfadafpbnjoaaDoor
set_option linter.unusedVariables false
set_option linter.unusedSimpArgs false
open Go.RowKit
attribute [local go_sem] bs_size bs_get bs_append bs_extract bs_toList
set_option maxRecDepth 100000 in
set_option maxHeartbeats 8000000 in
theorem rvalid_any (p : List Sgm) (A : Option Addr) (cap : Nat) (w : World) (hr : RdS cG w (Lt w) A p) (hl : p.length ≤ maxLen) :
    Calls Tryd.prog 67 #[.slice A p.length cap] w fun e w' => e = .returned (.bool (validB p)) ∧ Below w.heap.size w w' := by
  unfold maxLen at hl
  have HV : Hid (validB p = (decide (p.length ≤ 128) && chainB none p)) := Lib.hid rfl
  go_enter Tryd.func67, Tryd.ntmps67
  go_wp2_with fail
  go_loopw [7] (fun i wr => ∃ k : Nat, k ≤ p.length ∧ i = .int .i64 k ∧ Below w.heap.size w wr ∧ Hid (chainB none p = chainB (prevE p k) (p.drop k))) (fun i _ => p.length - (intOf i).toNat)
  case atStart => exact ⟨0, Nat.zero_le _, rfl, Below.refl _ _, Lib.hid rfl⟩
  case round =>
    obtain ⟨k, hk, rfl, hbr, HK⟩ := hrel
    by_cases hlt : k < p.length
    · have hki : (k : Int) < (p.length : Int) := by omega
      obtain ⟨b1, o1, hA, l1, ho, x0, x1, x2, x3⟩ := (hr.now hbr).el4 hlt
      have hba := hbr.alloc hbr.size (.cells (sgmV p[k]).toArray 39)
      unfold sgmO I64n at ho
      obtain ⟨⟨a1, a2⟩, ⟨a3, a4⟩, ⟨a5, a6⟩, a7, a8⟩ := ho
      cases hok : okS p[k] with
      | false =>
        have HF : Hid (validB p = false) := Lib.hid (by rw [HV.out, chain_bad hlt HK.out (Or.inl hok), Bool.and_false])
        have hno := okS_no hok
        subst hA
        clear hr hok HK HV
        generalize p[k] = x at *
        rcases hno with h1 | ⟨h1, h2⟩ | ⟨h1, h2, h3⟩ | ⟨h1, h2, h3, h4⟩ | ⟨h1, h2, h3, h4, h5⟩ | ⟨h1, h2, h3, h4, h5, h6⟩ | ⟨h1, h2, h3, h4, h5, h6, h7⟩
        all_goals (
          go_wp2_with fail
          (refine wp_region_quiet_lit (by kernel_rfl) (by kernel_rfl) ?_; (repeat (any_goals (first | go_big_quiet_step (fail) | quiet_step (fail) | (refine wpQuiet_step (fun K hK => ?_); go_simp; split <;> (refine hK _ ?_; clear hK K))))); all_goals (refine wpQuiet_nil ?_; intro _ hw'; obtain ⟨nq, hw''⟩ := hw'; subst hw'')))
        all_goals go_wp2_with fail
        all_goals (go_ret; exact ⟨ret_b HF.out.symm, Below.drewN hba _⟩)
      | true =>
        obtain ⟨⟨q1, q2⟩, ⟨q3, q4⟩, q5, ⟨q6, q7⟩, q8, q9⟩ := okS_iff.1 hok
        by_cases h0 : k = 0
        · subst h0
          have HN := Lib.hid (chain_ok hlt HK.out hok (Or.inl rfl))
          subst hA
          clear hr hok HK
          generalize p[0] = x at *
          rw [Nat.zero_mul, Nat.add_zero] at x0 x1 x2 x3
          rw [show ((0 : Nat) : Int) = (0 : Int) from rfl]
          go_wp2_with fail
          (refine wp_region_quiet_lit (by kernel_rfl) (by kernel_rfl) ?_; (repeat (any_goals (first | go_big_quiet_step (fail) | quiet_step (fail) | (refine wpQuiet_step (fun K hK => ?_); go_simp; split <;> (refine hK _ ?_; clear hK K))))); all_goals (refine wpQuiet_nil ?_; intro _ hw'; obtain ⟨nq, hw''⟩ := hw'; subst hw''))
          go_wp2_with fail
          all_goals go_roundw
          case rel => exact ⟨1, by omega, by go_num, Below.drewN hba _, HN⟩
          case measure => simp [intOf]; omega
        · obtain ⟨m, rfl⟩ : ∃ m, k = m + 1 := ⟨k - 1, by omega⟩
          obtain ⟨b2, o2, hA2, l2, _, _, y1, _, _⟩ := (hr.now hba).el4 (i := m) (by omega)
          by_cases hch : p[m].to = p[m + 1].fr
          · have HN := Lib.hid (chain_ok hlt HK.out hok (Or.inr ⟨by omega, hch⟩))
            rw [hch] at y1
            clear hch
            subst hA
            obtain ⟨rfl, rfl⟩ : b1 = b2 ∧ o1 = o2 := by simpa using hA2
            have hm1 : IntKind.i64.wrap ((m : Int) + 1 - 1) = (m : Int) := by rw [IntWalk.i64_in _ (by omega)]; omega
            have hm3 : IntKind.i64.wrap (m : Int) = (m : Int) := IntWalk.i64_in _ (by omega)
            have hm2 : ((m : Int) + 1 - 1) = (m : Int) := by omega
            have hmlt : (m : Int) < (p.length : Int) := by omega
            clear hr hok HK hA2
            generalize p[m + 1] = x at *
            have y1b : (wr.alloc (.cells #[.int .i64 x.fr, .int .i64 x.to, .int .i64 x.grd, .int .i64 x.spd] 39)).cell? ⟨b1, o1 + m * 4 + 1, none⟩ = some (.int .i64 x.fr) := y1
            clear y1
            go_wp2_with fail
            (refine wp_region_quiet_lit (by kernel_rfl) (by kernel_rfl) ?_; (repeat (any_goals (first | go_big_quiet_step (fail) | quiet_step (fail) | (refine wpQuiet_step (fun K hK => ?_); go_simp; split <;> (refine hK _ ?_; clear hK K))))); all_goals (refine wpQuiet_nil ?_; intro _ hw'; obtain ⟨nq, hw''⟩ := hw'; subst hw''))
            go_wp2_with fail
            all_goals go_roundw
            case rel => exact ⟨m + 1 + 1, by omega, by go_num, Below.drewN hba _, HN⟩
            case measure => simp [intOf]; omega
          · have HF : Hid (validB p = false) := Lib.hid (by rw [HV.out, chain_bad hlt HK.out (Or.inr ⟨by omega, hch⟩), Bool.and_false])
            have hcb : (p[m].to != p[m + 1].fr) = true := by rw [bne_iff_ne]; exact hch
            clear hch
            subst hA
            obtain ⟨rfl, rfl⟩ : b1 = b2 ∧ o1 = o2 := by simpa using hA2
            have hm1 : IntKind.i64.wrap ((m : Int) + 1 - 1) = (m : Int) := by rw [IntWalk.i64_in _ (by omega)]; omega
            have hm3 : IntKind.i64.wrap (m : Int) = (m : Int) := IntWalk.i64_in _ (by omega)
            have hm2 : ((m : Int) + 1 - 1) = (m : Int) := by omega
            have hmlt : (m : Int) < (p.length : Int) := by omega
            clear hr hok HK hA2
            generalize p[m] = z at *
            generalize p[m + 1] = x at *
            have y1b : (wr.alloc (.cells #[.int .i64 x.fr, .int .i64 x.to, .int .i64 x.grd, .int .i64 x.spd] 39)).cell? ⟨b1, o1 + m * 4 + 1, none⟩ = some (.int .i64 z.to) := y1
            clear y1
            go_wp2_with fail
            (refine wp_region_quiet_lit (by kernel_rfl) (by kernel_rfl) ?_; (repeat (any_goals (first | go_big_quiet_step (fail) | quiet_step (fail) | (refine wpQuiet_step (fun K hK => ?_); go_simp; split <;> (refine hK _ ?_; clear hK K))))); all_goals (refine wpQuiet_nil ?_; intro _ hw'; obtain ⟨nq, hw''⟩ := hw'; subst hw''))
            go_wp2_with fail
            all_goals (go_ret; exact ⟨ret_b HF.out.symm, Below.drewN hba _⟩)
    · have HF : Hid (validB p = decide (p.length ≤ 128)) := Lib.hid (by rw [HV.out, chain_end hlt HK.out, Bool.and_true])
      go_wp2_with fail
      go_ret
      exact ⟨ret_b (by rw [HF.out, Bool.eq_iff_iff]; simp only [decide_eq_true_eq]; omega), hbr⟩
end Go.Proofs.YtfmfadafpbnjoaaDoor
