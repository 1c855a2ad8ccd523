/- The walk of the reading of an authority. -/
import Derived.Test.YtlpkkcodmoklaaaAInv
import Derived.Outline
import Derived.Test.YtlpkkcodmoklaaaMsgWalksA
namespace Go.Proofs.Ytlpkkcodmoklaaa
set_option linter.unusedVariables false
set_option linter.unusedSimpArgs false
open Go.RowKit
attribute [local go_sem] bs_size bs_get bs_append bs_extract bs_toList
/-- What the reading of an authority leaves. -/
def AuthOut (w : World) (rb : Nat) (t : List UInt8) (s : Int × Bool) (e : Ending) (w' : World) : Prop :=
  ∃ (v v2 : Value) (base : Nat), e = .returned (.agg #[.int .i64 (parseA t s).1.1, .int .i64 (parseA t s).1.2.1, v, v2]) ∧ w.heap.size ≤ base ∧ w'.ownsRow base 100 4 v (parseA t s).1.2.2.1.length ((parseA t s).1.2.2.1.flatMap Seg.cells) ∧ w'.ownsRow base 77 2 v2 (parseA t s).1.2.2.2.length ((parseA t s).1.2.2.2.flatMap Lnk.cells) ∧ Rdr rb t (parseA t s).2 w' ∧ Only rb w w'
theorem stepC_le {most : Int} {t : List UInt8} {s : Int × Bool} (h : 0 ≤ most) : ((stepC most t s).1 : Int) ≤ most := by
  unfold stepC
  split
  · rename_i hc
    exact (Wire.takeC_bd hc.2).2.2.2
  · exact h
set_option maxRecDepth 100000 in
set_option maxHeartbeats 4000000 in
theorem authority_any (rb : Nat) (t : List UInt8) (s : Int × Bool) (w : World) (h : Rdr rb t s w) (ht : t.length ≤ 100000) :
    Calls Try.prog 95 #[.pointer (some ⟨rb, 0, none⟩)] w fun e w' => AuthOut w rb t s e w' := by
  obtain ⟨i0, hi, iz, isz, iby⟩ := info_parts info100
  obtain ⟨j0, hj, jz, jsz, jby⟩ := info_parts info77
  have hrb := heap_lt h.1
  go_enter Try.func95, Try.ntmps95
  go_wp2_with fail
  refine (number_any rb t s _ (h.alloc _) ht).mono ?_
  rintro e w1 ⟨rfl, hr1, ho1⟩
  go_wp2_with fail
  refine (number_any rb t _ _ hr1 ht).mono ?_
  rintro e w2 ⟨rfl, hr2, ho2⟩
  have hO2 : Only rb (w.alloc (.cells #[.int .i64 0, .int .i64 0, .slice none 0 0, .slice none 0 0] 65)) w2 := ho1.trans ho2
  have hOA : Only rb w (w.alloc (.cells #[.int .i64 0, .int .i64 0, .slice none 0 0, .slice none 0 0] 65)) := Only.of_below ((Below.refl _ _).alloc (Nat.le_refl _) _)
  have hrA : (w.alloc (.cells #[.int .i64 0, .int .i64 0, .slice none 0 0, .slice none 0 0] 65)).heap[w.heap.size]? = some (.cells #[.int .i64 0, .int .i64 0, .slice none 0 0, .slice none 0 0] 65 (0, 0)) := heap_alloc_new _ _
  have hzA : (w.alloc (.cells #[.int .i64 0, .int .i64 0, .slice none 0 0, .slice none 0 0] 65)).heap.size = w.heap.size + 1 := World.size_alloc _ _
  generalize hwA : (w.alloc (.cells #[.int .i64 0, .int .i64 0, .slice none 0 0, .slice none 0 0] 65)) = wA at *
  have hz2 := hO2.size
  generalize hx : (stepI t s).1 = x at *
  generalize hy : (stepI t (stepI t s).2).1 = y at *
  generalize hs2 : (stepI t (stepI t s).2).2 = s2 at *
  have HX := Lib.hid hx
  have HY := Lib.hid hy
  have HS2 := Lib.hid hs2
  clear hx hy hs2
  go_wp2_with fail
  have hI2 : AInv wA rb w2.heap.size x y (.slice none 0 0) [] (.slice none 0 0) [] (w2.alloc (.cells #[.int .i64 x, .int .i64 y, .slice none 0 0, .slice none 0 0] 65)) :=
    ⟨heap_alloc_new _ _, World.ownsRow_nil _ _ _ _, World.ownsRow_nil _ _ _ _, hO2.trans (Only.of_below ((Below.refl _ _).alloc (Nat.le_refl _) _))⟩
  generalize w2.heap.size = ab at *
  have hab : wA.heap.size ≤ ab := by assumption
  refine (count_any rb t s2 _ (hr2.alloc _) ht 128 (by decide) (by decide)).mono ?_
  rintro e w3 ⟨rfl, hr3, ho3⟩
  have hI3 := hI2.step ho3 (by omega)
  have hn1 : (stepC 128 t s2).1 ≤ 128 := by have := stepC_le (most := 128) (t := t) (s := s2) (by decide); omega
  generalize hn : (stepC 128 t s2).1 = n at *
  generalize hs3 : (stepC 128 t s2).2 = s3 at *
  have HN := Lib.hid hn
  have HS3 := Lib.hid hs3
  clear hn hs3
  clear hI2 hr2 hr1 ho1 ho2 ho3 hO2 hz2
  go_wp2_with fail
  go_loopw [11] (fun i wr => ∃ (k : Nat) (acc : List Seg) (st : Int × Bool) (v : Value), k ≤ n ∧ acc.length = k ∧ i = .int .i64 k ∧ Rdr rb t st wr ∧ AInv wA rb ab x y v acc (.slice none 0 0) [] wr ∧ segN (stepI t) n s3 [] = segN (stepI t) (n - k) st acc) (fun i _ => (n - intOf i).toNat)
  case atStart => exact ⟨0, [], s3, _, by omega, rfl, rfl, hr3, hI3, rfl⟩
  case round =>
    obtain ⟨k, acc, st, v, hk, hacc, rfl, hr, hI, hseg⟩ := hrel
    by_cases hlt : k < n
    · have hseg2 : segN (stepI t) n s3 [] = segN (stepI t) (n - (k + 1)) (stepI t (stepI t (stepI t (stepI t st).2).2).2).2 (acc ++ [((stepI t st).1, (stepI t (stepI t st).2).1, (stepI t (stepI t (stepI t st).2).2).1, (stepI t (stepI t (stepI t (stepI t st).2).2).2).1)]) := by
        rw [hseg, show n - k = (n - (k + 1)) + 1 by omega, segN]
      have HSEG := Lib.hid hseg2
      clear hseg hseg2
      obtain ⟨c2, c3, f2, f3⟩ := hI.cells
      go_wp2_with fail
      go_region_law (first
        | (refine step_append_row rfl (.tmp 14) (.tmp 24) 62 rfl (ab + 1) 100 i0 _ 4 32 Try.underlying62 hi iz isz iby rfl (by decide) v acc.length (acc.flatMap Seg.cells) rfl (hI.alloc (show rb < ab by omega) _).own _ (Seg.cells ((stepI t st).1, (stepI t (stepI t st).2).1, (stepI t (stepI t (stepI t st).2).2).1, (stepI t (stepI t (stepI t (stepI t st).2).2).2).1)) rfl rfl (fun j u hj => by rw [World.cell?_alloc_at _ _ _ _ rfl]; simpa [Seg.cells] using hj) (by intro u hu; simp [Seg.cells] at hu; rcases hu with rfl | rfl | rfl | rfl <;> rfl) (by omega) (by decide) (by have := hI.lt; simp; omega) ?_; intro A' m' c' w' hown hg; have hI' := hI.alloc (show rb < ab by omega) (.cells #[.int .i64 (stepI t st).1, .int .i64 (stepI t (stepI t st).2).1, .int .i64 (stepI t (stepI t (stepI t st).2).2).1, .int .i64 (stepI t (stepI t (stepI t (stepI t st).2).2).2).1] 100); obtain ⟨f2, c2⟩ := hI'.facts hg)
        | (go_simp; go_at_call 94; refine (number_any rb t _ _ (by first | with_reducible assumption | exact Rdr.drew (by with_reducible assumption)) ht).mono ?_; rintro e wq ⟨rfl, hr, ho⟩; have hI := AInv.step (by first | with_reducible assumption | exact AInv.drew (by with_reducible assumption)) ho (show rb < ab by omega); obtain ⟨c2, c3, f2, f3⟩ := hI.cells; have hlt2 := hI.lt))
      all_goals (go_wp2_with fail)
      all_goals (
        go_roundw
        case rel => exact ⟨k + 1, _, _, _, by omega, by simp; omega, by go_num, (hr.alloc _).put hI' hg (by omega) _ _, hI'.put hab hown hg, HSEG.out⟩
        case measure => simp [intOf] <;> omega)
    · have e0 : n - k = 0 := by omega
      rw [e0, segN] at hseg
      have HSEG := Lib.hid hseg
      clear hseg e0
      go_wp2_with fail
      refine (count_any rb t st _ hr ht 24 (by decide) (by decide)).mono ?_
      rintro e w4 ⟨rfl, hr4, ho4⟩
      have hI4 := hI.step ho4 (by omega)
      have hm1 : (stepC 24 t st).1 ≤ 24 := by have := stepC_le (most := 24) (t := t) (s := st) (by decide); omega
      generalize hm : (stepC 24 t st).1 = m at *
      generalize hs4 : (stepC 24 t st).2 = s4 at *
      have HM := Lib.hid hm
      have HS4 := Lib.hid hs4
      clear hr hI ho4 hm hs4
      go_wp2_with fail
      go_loopw [30] (fun i wr => ∃ (k : Nat) (acc2 : List Lnk) (st : Int × Bool) (v2 : Value), k ≤ m ∧ acc2.length = k ∧ i = .int .i64 k ∧ Rdr rb t st wr ∧ AInv wA rb ab x y v acc v2 acc2 wr ∧ lnkN (stepI t) m s4 [] = lnkN (stepI t) (m - k) st acc2) (fun i _ => (m - intOf i).toNat)
      case atStart => exact ⟨0, [], s4, _, by omega, rfl, rfl, hr4, hI4, rfl⟩
      case round =>
        clear hr4 hI4 hk hacc hlt
        obtain ⟨k, acc2, st, v2, hk, hacc, rfl, hr, hI, hseg⟩ := hrel
        by_cases hlt : k < m
        · have hseg2 : lnkN (stepI t) m s4 [] = lnkN (stepI t) (m - (k + 1)) (stepI t (stepI t st).2).2 (acc2 ++ [((stepI t st).1, (stepI t (stepI t st).2).1)]) := by
            rw [hseg, show m - k = (m - (k + 1)) + 1 by omega, lnkN]
          have HSEG2 := Lib.hid hseg2
          clear hseg hseg2
          obtain ⟨c2, c3, f2, f3⟩ := hI.cells
          go_wp2_with fail
          go_region_law (first
            | (refine step_append_row rfl (.tmp 33) (.tmp 39) 63 rfl (ab + 1) 77 j0 _ 2 16 Try.underlying63 hj jz jsz jby rfl (by decide) v2 acc2.length (acc2.flatMap Lnk.cells) rfl (hI.alloc (show rb < ab by omega) _).own2 _ (Lnk.cells ((stepI t st).1, (stepI t (stepI t st).2).1)) rfl rfl (fun j u hj => by rw [World.cell?_alloc_at _ _ _ _ rfl]; simpa [Lnk.cells] using hj) (by intro u hu; simp [Lnk.cells] at hu; rcases hu with rfl | rfl <;> rfl) (by omega) (by decide) (by have := hI.lt; simp; omega) ?_; intro A' m' c' w' hown hg; have hI' := hI.alloc (show rb < ab by omega) (.cells #[.int .i64 (stepI t st).1, .int .i64 (stepI t (stepI t st).2).1] 77); obtain ⟨f3, c3⟩ := hI'.facts2 hg)
            | (go_simp; go_at_call 94; refine (number_any rb t _ _ (by first | with_reducible assumption | exact Rdr.drew (by with_reducible assumption)) ht).mono ?_; rintro e wq ⟨rfl, hr, ho⟩; have hI := AInv.step (by first | with_reducible assumption | exact AInv.drew (by with_reducible assumption)) ho (show rb < ab by omega); obtain ⟨c2, c3, f2, f3⟩ := hI.cells; have hlt2 := hI.lt))
          all_goals (go_wp2_with fail)
          all_goals (
            go_roundw
            case rel => exact ⟨k + 1, _, _, _, by omega, by simp; omega, by go_num, (hr.alloc _).put2 hI' hg (by omega) _ _, hI'.put2 hab hown hg, HSEG2.out⟩
            case measure => simp [intOf] <;> omega)
        · have e0 : m - k = 0 := by omega
          rw [e0, lnkN] at hseg
          have HSEG2 := Lib.hid hseg
          clear hseg e0
          have c0 : wr.cell? ⟨ab, 0, none⟩ = some (.int .i64 x) := by rw [Lib.cell_of_heap hI.box]; rfl
          have c1 : wr.cell? ⟨ab, 1, none⟩ = some (.int .i64 y) := by rw [Lib.cell_of_heap hI.box]; rfl
          obtain ⟨c2, c3, f2, f3⟩ := hI.cells
          have hrw := (hI.only.block w.heap.size (by omega) (by omega)).trans hrA
          have d0 := Lib.cell_of_heap hrw 0
          have d1 := Lib.cell_of_heap hrw 1
          have d2 := Lib.cell_of_heap hrw 2
          have d3 := Lib.cell_of_heap hrw 3
          have g0 := Lib.frozen_of_heap hrw 0
          have g1 := Lib.frozen_of_heap hrw 1
          have g2 := Lib.frozen_of_heap hrw 2
          have g3 := Lib.frozen_of_heap hrw 3
          simp only [List.getElem?_toArray, List.getElem?_cons_succ, List.getElem?_cons_zero] at d0 d1 d2 d3
          obtain ⟨A, m1, c1', rfl⟩ := slice_form hI.own
          obtain ⟨A', m2, c2', rfl⟩ := slice_form hI.own2
          go_wp2_with fail
          have hW : ((((wr.setCell ⟨w.heap.size, 0, none⟩ (.int .i64 x)).setCell ⟨w.heap.size, 1, none⟩ (.int .i64 y)).setCell ⟨w.heap.size, 2, none⟩ (.slice A m1 c1')).setCell ⟨w.heap.size, 3, none⟩ (.slice A' m2 c2')).heap[w.heap.size]? = some (.cells #[.int .i64 x, .int .i64 y, .slice A m1 c1', .slice A' m2 c2'] 65 (0, 0)) := by
            have := heap_set _ _ 3 (.slice A' m2 c2') _ _ _ (heap_set _ _ 2 (.slice A m1 c1') _ _ _ (heap_set _ _ 1 (.int .i64 y) _ _ _ (heap_set _ _ 0 (.int .i64 x) _ _ _ hrw)))
            simpa using this
          have e0 : ((((wr.setCell ⟨w.heap.size, 0, none⟩ (.int .i64 x)).setCell ⟨w.heap.size, 1, none⟩ (.int .i64 y)).setCell ⟨w.heap.size, 2, none⟩ (.slice A m1 c1')).setCell ⟨w.heap.size, 3, none⟩ (.slice A' m2 c2')).cell? ⟨w.heap.size, 0, none⟩ = some (.int .i64 x) := by rw [Lib.cell_of_heap hW]; rfl
          have e1 : ((((wr.setCell ⟨w.heap.size, 0, none⟩ (.int .i64 x)).setCell ⟨w.heap.size, 1, none⟩ (.int .i64 y)).setCell ⟨w.heap.size, 2, none⟩ (.slice A m1 c1')).setCell ⟨w.heap.size, 3, none⟩ (.slice A' m2 c2')).cell? ⟨w.heap.size, 1, none⟩ = some (.int .i64 y) := by rw [Lib.cell_of_heap hW]; rfl
          have e2 : ((((wr.setCell ⟨w.heap.size, 0, none⟩ (.int .i64 x)).setCell ⟨w.heap.size, 1, none⟩ (.int .i64 y)).setCell ⟨w.heap.size, 2, none⟩ (.slice A m1 c1')).setCell ⟨w.heap.size, 3, none⟩ (.slice A' m2 c2')).cell? ⟨w.heap.size, 2, none⟩ = some (.slice A m1 c1') := by rw [Lib.cell_of_heap hW]; rfl
          have e3 : ((((wr.setCell ⟨w.heap.size, 0, none⟩ (.int .i64 x)).setCell ⟨w.heap.size, 1, none⟩ (.int .i64 y)).setCell ⟨w.heap.size, 2, none⟩ (.slice A m1 c1')).setCell ⟨w.heap.size, 3, none⟩ (.slice A' m2 c2')).cell? ⟨w.heap.size, 3, none⟩ = some (.slice A' m2 c2') := by rw [Lib.cell_of_heap hW]; rfl
          refine bodyPost_ret (v := .agg #[.int .i64 x, .int .i64 y, .slice A m1 c1', .slice A' m2 c2']) (by simp [results, Try.results95, go_sem, e0, e1, e2, e3]) rfl ?_
          have ew1 : ((((wr.setCell ⟨w.heap.size, 0, none⟩ (.int .i64 x)).setCell ⟨w.heap.size, 1, none⟩ (.int .i64 y)).setCell ⟨w.heap.size, 2, none⟩ (.slice A m1 c1')).setCell ⟨w.heap.size, 3, none⟩ (.slice A' m2 c2')).ownsRow (ab + 1) 100 4 (.slice A m1 c1') acc.length (acc.flatMap Seg.cells) := own_set (own_set (own_set (own_set hI.own _ _ _ (by omega)) _ _ _ (by omega)) _ _ _ (by omega)) _ _ _ (by omega)
          have ew2 : ((((wr.setCell ⟨w.heap.size, 0, none⟩ (.int .i64 x)).setCell ⟨w.heap.size, 1, none⟩ (.int .i64 y)).setCell ⟨w.heap.size, 2, none⟩ (.slice A m1 c1')).setCell ⟨w.heap.size, 3, none⟩ (.slice A' m2 c2')).ownsRow (ab + 1) 77 2 (.slice A' m2 c2') acc2.length (acc2.flatMap Lnk.cells) := own_set (own_set (own_set (own_set hI.own2 _ _ _ (by omega)) _ _ _ (by omega)) _ _ _ (by omega)) _ _ _ (by omega)
          have hx' : (parseA t s).1.1 = x := by simp [parseA, HX.out]
          have hy' : (parseA t s).1.2.1 = y := by simp [parseA, HY.out]
          have hp' : (parseA t s).1.2.2.1 = acc := by simp [parseA, HS2.out, HN.out, HS3.out, HSEG.out]
          have hl' : (parseA t s).1.2.2.2 = acc2 := by simp [parseA, HS2.out, HN.out, HS3.out, HSEG.out, HM.out, HS4.out, HSEG2.out]
          have hs' : (parseA t s).2 = st := by simp [parseA, HS2.out, HN.out, HS3.out, HSEG.out, HM.out, HS4.out, HSEG2.out]
          refine ⟨.slice A m1 c1', .slice A' m2 c2', ab + 1, ?_, by omega, ?_, ?_, ?_, ?_⟩
          · rw [hx', hy']
          · rw [hp']; exact ew1
          · rw [hl']; exact ew2
          · rw [hs']
            exact ⟨(Below.heap_setCell _ _ _ _ (show rb ≠ w.heap.size by omega)).trans ((Below.heap_setCell _ _ _ _ (show rb ≠ w.heap.size by omega)).trans ((Below.heap_setCell _ _ _ _ (show rb ≠ w.heap.size by omega)).trans ((Below.heap_setCell _ _ _ _ (show rb ≠ w.heap.size by omega)).trans hr.1))), hr.2⟩
          · exact only_new (only_new (only_new (only_new (hOA.trans hI.only) (Nat.le_refl _) _ _) (Nat.le_refl _) _ _) (Nat.le_refl _) _ _) (Nat.le_refl _) _ _
end Go.Proofs.Ytlpkkcodmoklaaa
