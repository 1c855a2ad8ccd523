/- The walk of the reference's Check. -/
import Derived.Test.YtfmfadafpbnjoaaDoorTnWalksB
namespace Go.Proofs.YtfmfadafpbnjoaaDoor
set_option linter.unusedVariables false
set_option linter.unusedSimpArgs false
open Go.RowKit
attribute [local go_sem] bs_size bs_get bs_append bs_extract bs_toList
set_option maxRecDepth 100000 in
set_option maxHeartbeats 4000000 in
theorem rcheck_any (t : Trn) (w : World) (hn : t.name.length ≤ maxLen) : Calls Tryd.prog 13 #[trnA t] w fun e w' => e = .returned (.int .i64 (chkF t)) ∧ Below w.heap.size w w' := by
  have hts := TS.new w t w.heap.size rfl
  cases hnm : nameB t.name with
  | false =>
    have HC := Lib.hid (chk_name hnm)
    have HN := Lib.hid hnm
    clear hnm
    unfold trnA
    go_enter Tryd.func13, Tryd.ntmps13
    go_wp2_with fail
    refine (rnameC HN.out _ hn).mono ?_
    rintro e w1 ⟨rfl, rfl⟩
    go_wp2_with fail
    go_ret
    exact ⟨ret_iT HC.out.symm, hts.bel⟩
  | true =>
    have HN := Lib.hid hnm
    have HC : Hid (chkF t = if rngA t && rngB t then 0 else 1) := Lib.hid (by unfold chkF; rw [if_neg (by simp [hnm])])
    have HA : Hid (rngA t = (inB t.id 1 99 && (inB t.len 1 50000 && (inB t.spd 1 10000 && (inB t.acc 1 200 && inB t.srv 1 200))))) := Lib.hid rfl
    have HB : Hid (rngB t = (inB t.emg t.srv 200 && (inB t.dly 0 5 && (inB t.cst 0 500 && inB t.rate 0 100)))) := Lib.hid rfl
    have i0 := fun W => in_any t.id 1 99 W
    have i1 := fun W => in_any t.len 1 50000 W
    have i2 := fun W => in_any t.spd 1 10000 W
    have i3 := fun W => in_any t.acc 1 200 W
    have i4 := fun W => in_any t.srv 1 200 W
    have i5 := fun W => in_any t.emg t.srv 200 W
    have i6 := fun W => in_any t.dly 0 5 W
    have i7 := fun W => in_any t.cst 0 500 W
    have i8 := fun W => in_any t.rate 0 100 W
    clear hnm
    unfold trnA
    generalize inB t.id 1 99 = b0 at *
    generalize inB t.len 1 50000 = b1 at *
    generalize inB t.spd 1 10000 = b2 at *
    generalize inB t.acc 1 200 = b3 at *
    generalize inB t.srv 1 200 = b4 at *
    generalize inB t.emg t.srv 200 = b5 at *
    generalize inB t.dly 0 5 = b6 at *
    generalize inB t.cst 0 500 = b7 at *
    generalize inB t.rate 0 100 = b8 at *
    go_enter Tryd.func13, Tryd.ntmps13
    go_wp2_with fail
    refine (rnameC HN.out _ hn).mono ?_
    rintro e w1 ⟨rfl, rfl⟩
    go_wp2_with fail
    refine (i0 _).mono ?_
    rintro e w' ⟨rfl, rfl⟩
    go_wp2_with fail
    all_goals try (go_ret; exact ⟨ret_iT (by rw [HC.out, HA.out, HB.out]; first | (simp [*]; done) | (simp_all; done) | (cases b0 <;> cases b1 <;> cases b2 <;> cases b3 <;> cases b4 <;> cases b5 <;> cases b6 <;> cases b7 <;> cases b8 <;> simp_all)), hts.bel⟩)
    refine (i1 _).mono ?_
    rintro e w' ⟨rfl, rfl⟩
    go_wp2_with fail
    all_goals try (go_ret; exact ⟨ret_iT (by rw [HC.out, HA.out, HB.out]; first | (simp [*]; done) | (simp_all; done) | (cases b0 <;> cases b1 <;> cases b2 <;> cases b3 <;> cases b4 <;> cases b5 <;> cases b6 <;> cases b7 <;> cases b8 <;> simp_all)), hts.bel⟩)
    refine (i2 _).mono ?_
    rintro e w' ⟨rfl, rfl⟩
    go_wp2_with fail
    all_goals try (go_ret; exact ⟨ret_iT (by rw [HC.out, HA.out, HB.out]; first | (simp [*]; done) | (simp_all; done) | (cases b0 <;> cases b1 <;> cases b2 <;> cases b3 <;> cases b4 <;> cases b5 <;> cases b6 <;> cases b7 <;> cases b8 <;> simp_all)), hts.bel⟩)
    refine (i3 _).mono ?_
    rintro e w' ⟨rfl, rfl⟩
    go_wp2_with fail
    all_goals try (go_ret; exact ⟨ret_iT (by rw [HC.out, HA.out, HB.out]; first | (simp [*]; done) | (simp_all; done) | (cases b0 <;> cases b1 <;> cases b2 <;> cases b3 <;> cases b4 <;> cases b5 <;> cases b6 <;> cases b7 <;> cases b8 <;> simp_all)), hts.bel⟩)
    refine (i4 _).mono ?_
    rintro e w' ⟨rfl, rfl⟩
    go_wp2_with fail
    all_goals try (go_ret; exact ⟨ret_iT (by rw [HC.out, HA.out, HB.out]; first | (simp [*]; done) | (simp_all; done) | (cases b0 <;> cases b1 <;> cases b2 <;> cases b3 <;> cases b4 <;> cases b5 <;> cases b6 <;> cases b7 <;> cases b8 <;> simp_all)), hts.bel⟩)
    refine (i5 _).mono ?_
    rintro e w' ⟨rfl, rfl⟩
    go_wp2_with fail
    all_goals try (go_ret; exact ⟨ret_iT (by rw [HC.out, HA.out, HB.out]; first | (simp [*]; done) | (simp_all; done) | (cases b0 <;> cases b1 <;> cases b2 <;> cases b3 <;> cases b4 <;> cases b5 <;> cases b6 <;> cases b7 <;> cases b8 <;> simp_all)), hts.bel⟩)
    refine (i6 _).mono ?_
    rintro e w' ⟨rfl, rfl⟩
    go_wp2_with fail
    all_goals try (go_ret; exact ⟨ret_iT (by rw [HC.out, HA.out, HB.out]; first | (simp [*]; done) | (simp_all; done) | (cases b0 <;> cases b1 <;> cases b2 <;> cases b3 <;> cases b4 <;> cases b5 <;> cases b6 <;> cases b7 <;> cases b8 <;> simp_all)), hts.bel⟩)
    refine (i7 _).mono ?_
    rintro e w' ⟨rfl, rfl⟩
    go_wp2_with fail
    all_goals try (go_ret; exact ⟨ret_iT (by rw [HC.out, HA.out, HB.out]; first | (simp [*]; done) | (simp_all; done) | (cases b0 <;> cases b1 <;> cases b2 <;> cases b3 <;> cases b4 <;> cases b5 <;> cases b6 <;> cases b7 <;> cases b8 <;> simp_all)), hts.bel⟩)
    refine (i8 _).mono ?_
    rintro e w' ⟨rfl, rfl⟩
    go_wp2_with fail
    all_goals try (go_ret; exact ⟨ret_iT (by rw [HC.out, HA.out, HB.out]; first | (simp [*]; done) | (simp_all; done) | (cases b0 <;> cases b1 <;> cases b2 <;> cases b3 <;> cases b4 <;> cases b5 <;> cases b6 <;> cases b7 <;> cases b8 <;> simp_all)), hts.bel⟩)
end Go.Proofs.YtfmfadafpbnjoaaDoor
