/- The walk of the reference's TakeInts. -/
import Derived.Test.YtlpkkcodmoklaaaWireWalksJ
import Derived.Test.YtlpkkcodmoklaaaOwnV
namespace Go.Proofs.Ytlpkkcodmoklaaa
open Go.RowKit
attribute [local go_sem] bs_size bs_get bs_append bs_extract bs_toList
set_option maxRecDepth 100000 in
set_option maxHeartbeats 2000000 in
theorem refTakeInts_any (l : List UInt8) (at' most : Int) (w : World) (hs : l.length ≤ 1000000) (h1 : -9223372036854775808 ≤ at') (h2 : at' ≤ 9223372036854775807) (h3 : -9223372036854775808 ≤ most) (h4 : most ≤ 9223372036854775807) :
    Calls Try.prog 37 #[.string (bs l), .int .i64 at', .int .i64 most] w (TakesL (Wire.takeL l at' most) w) := by
  obtain ⟨i0, hi, hz0, hz1, hz2⟩ := info_parts info3
  obtain ⟨n, nx, er, ht⟩ : ∃ n nx er, Wire.takeC l at' most = (n, nx, er) := ⟨_, _, _, rfl⟩
  have htt : Wire.takeL l at' most = if er = 0 then Wire.takeIs l n [] nx else ([], 0, er) := by unfold Wire.takeL; rw [ht]
  have hnx : er = 0 → 0 ≤ nx ∧ nx + n ≤ l.length := fun h => by
    have := Wire.takeC_bd (l := l) (at' := at') (most := most) (by rw [ht]; exact h)
    rw [ht] at this
    have h5 := this.2.1
    have h6 := this.2.2.1
    simp only at h5 h6
    omega
  have HT := Lib.hid ht
  have HI := Lib.hid htt
  clear ht htt
  go_enter Try.func37, Try.ntmps37
  go_wp2_with fail
  refine (refTakeCount_any l at' most _ (by omega) h1 h2 h3 h4).mono ?_
  rw [HT.out]
  rintro e w1 ⟨rfl, hb⟩
  by_cases he : er = 0
  · have hbe : (er != 0) = false := by rw [he]; rfl
    obtain ⟨hn1, hn2⟩ := hnx he
    have HE := Lib.hid he
    clear he hnx
    go_wp2_with fail
    go_loopw [10, 12, 13] (fun t v i wr => ∃ (k : Nat) (acc : List Int) (p : Int), k ≤ n ∧ acc.length ≤ k ∧ i = .int .i64 k ∧ t = .int .i64 p ∧ 0 ≤ p ∧ p ≤ l.length ∧ Wire.takeIs l n [] nx = Wire.takeIs l (n - k) acc p ∧
        OwnV wr w.heap.size 3 v (cellsI acc) ∧ Below w.heap.size w wr) (fun _ _ i _ => (n - intOf i).toNat)
    case atStart => exact ⟨0, [], nx, by omega, by simp, rfl, rfl, hn1, by omega, rfl, OwnV.nil _ _ _, hb⟩
    case round =>
      obtain ⟨k, acc, p, hk, hacc, rfl, rfl, hp1, hp2, hrec, hown, hbr⟩ := hrel
      by_cases hlt : k < n
      · obtain ⟨x, nx', er', hti⟩ : ∃ x nx' er', Wire.takeI l p = (x, nx', er') := ⟨_, _, _, rfl⟩
        have hnx' : er' = 0 → 0 ≤ nx' ∧ nx' ≤ l.length := fun h => by
          have := Wire.takeI_next (l := l) (at' := p) (by rw [hti]; exact h)
          rw [hti] at this
          exact this
        obtain ⟨q, hq⟩ : ∃ q, n - k = q + 1 := ⟨n - k - 1, by omega⟩
        have hq' : n - (k + 1) = q := by omega
        have hrec2 : Wire.takeIs l (n - k) acc p = if er' = 0 then Wire.takeIs l q (acc ++ [x]) nx' else ([], 0, er') := by
          rw [hq, Wire.takeIs, hti]
        have HR := Lib.hid hrec2
        have HT2 := Lib.hid hti
        have HQ := Lib.hid hq'
        have HRec := Lib.hid hrec
        clear hrec2 hti hq hq' hrec
        go_wp2_with fail
        refine (refTakeInt_any l p _ (by omega) (by omega) (by omega)).mono ?_
        rw [HT2.out]
        rintro e w3 ⟨rfl, hb3⟩
        have hown3 := hown.below hb3
        have hbr3 : Below w.heap.size w w3 := hbr.trans (hb3.mono hbr.size)
        clear hown hbr hb3
        by_cases he' : er' = 0
        · have hbe' : (er' != 0) = false := by rw [he']; rfl
          obtain ⟨hq1, hq2⟩ := hnx' he'
          have HE' := Lib.hid he'
          clear he' hnx'
          go_wp2_with (at_builtin; refine wpList_append_v _ rfl (.tmp 43) (.tmp 45) 41 rfl w.heap.size 3 i0 _ 8 Try.underlying41 hi hz0 hz1 hz2 rfl _ (cellsI acc) rfl hown3 (.int .i64 x) rfl _ rfl (by rw [cellsI_length]; omega) (by omega) hbr3.size ?_; intro v' w' hown' hkeep)
          go_roundw
          case rel => exact ⟨k + 1, acc ++ [x], nx', by omega, by rw [List.length_append]; simp; omega, by go_num, rfl, hq1, hq2, by rw [HRec.out, HR.out, if_pos HE'.out, HQ.out], by rw [cellsI_snoc]; exact hown', hkeep _ _ (Nat.le_refl _) hbr3⟩
          case measure => simp [intOf] <;> omega
        · have hbe' : (er' != 0) = true := by rw [bne_iff_ne]; exact he'
          have hfin : Wire.takeL l at' most = ([], 0, er') := by rw [HI.out, if_pos HE.out, HRec.out, HR.out, if_neg he']
          have HF := Lib.hid hfin
          clear he' hnx' hfin
          go_wp2_with fail
          go_ret3
          exact ⟨_, by rw [HF.out]; rfl, by rw [HF.out]; exact rd_nil _ _ _, hbr3⟩
      · have hkn : n - k = 0 := by omega
        have hfin : Wire.takeL l at' most = (acc, p, 0) := by rw [HI.out, if_pos HE.out, hrec, hkn, Wire.takeIs]
        have HF := Lib.hid hfin
        clear hfin hrec hacc hkn
        go_wp2_with fail
        go_ret3
        refine ⟨_, by rw [HF.out]; rfl, ?_, hbr⟩
        rw [HF.out]
        show Rd wr wr.heap.size 1 _ acc.length (cellsI acc)
        have hr := Rd.of_own hown
        rw [cellsI_length] at hr
        exact hr
  · have hbe : (er != 0) = true := by rw [bne_iff_ne]; exact he
    have HE := Lib.hid he
    clear he hnx
    go_wp2_with fail
    go_ret3
    exact ⟨_, by rw [HI.out, if_neg HE.out]; rfl, by rw [HI.out, if_neg HE.out]; exact rd_nil _ _ _, hb⟩
end Go.Proofs.Ytlpkkcodmoklaaa
