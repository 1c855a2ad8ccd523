/- The walk of the reading of a message: a report. -/
import Derived.Test.YtlpkkcodmoklaaaMsgDecB
namespace Go.Proofs.Ytlpkkcodmoklaaa
set_option linter.unusedVariables false
set_option linter.unusedSimpArgs false
open Go.RowKit
attribute [local go_sem] bs_size bs_get bs_append bs_extract bs_toList

set_option maxRecDepth 100000 in
set_option maxHeartbeats 8000000 in
theorem message_rep (rb : Nat) (t : List UInt8) (s : Int × Bool) (w : World) (h : Rdr rb t s w) (ht : t.length ≤ 100000) (k1 : ((stepI t s).1 == 1) = true) (k2 : carB (stepI t s).1 = false) :
    Calls Try.prog 86 #[.pointer (some ⟨rb, 0, none⟩)] w fun e w' => MsgOut w rb t s e w' := by

  have hrb := heap_lt h.1
  go_enter Try.func86, Try.ntmps86
  go_wp2_with fail
  refine (number_any rb t s _ (h.alloc _) ht).mono ?_
  rintro e w1 ⟨rfl, hr1, ho1⟩
  go_wp2_with fail
  refine (number_any rb t _ _ hr1 ht).mono ?_
  rintro e w2 ⟨rfl, hr2, ho2⟩
  go_wp2_with fail
  refine (number_any rb t _ _ hr2 ht).mono ?_
  rintro e w3 ⟨rfl, hr3, ho3⟩
  go_wp2_with fail
  refine (number_any rb t _ _ hr3 ht).mono ?_
  rintro e w4 ⟨rfl, hr4, ho4⟩
  go_wp2_with fail
  refine (number_any rb t _ _ hr4 ht).mono ?_
  rintro e w5 ⟨rfl, hr5, ho5⟩
  go_wp2_with fail
  have hOA : Only rb w (w.alloc (.cells #[.int .i64 0, .int .i64 0, .int .i64 0, .int .i64 0, .int .i64 0, .int .i64 0, .int .i64 0, .slice none 0 0, .slice none 0 0, .int .i64 0, .int .i64 0, .int .i64 0, .int .i64 0, .bool false] 69)) := Only.of_below ((Below.refl _ _).alloc (Nat.le_refl _) _)
  have hrA : (w.alloc (.cells #[.int .i64 0, .int .i64 0, .int .i64 0, .int .i64 0, .int .i64 0, .int .i64 0, .int .i64 0, .slice none 0 0, .slice none 0 0, .int .i64 0, .int .i64 0, .int .i64 0, .int .i64 0, .bool false] 69)).heap[w.heap.size]? = some (.cells #[.int .i64 0, .int .i64 0, .int .i64 0, .int .i64 0, .int .i64 0, .int .i64 0, .int .i64 0, .slice none 0 0, .slice none 0 0, .int .i64 0, .int .i64 0, .int .i64 0, .int .i64 0, .bool false] 69 (0, 0)) := heap_alloc_new _ _
  have hzA : (w.alloc (.cells #[.int .i64 0, .int .i64 0, .int .i64 0, .int .i64 0, .int .i64 0, .int .i64 0, .int .i64 0, .slice none 0 0, .slice none 0 0, .int .i64 0, .int .i64 0, .int .i64 0, .int .i64 0, .bool false] 69)).heap.size = w.heap.size + 1 := World.size_alloc _ _
  generalize hwA : (w.alloc (.cells #[.int .i64 0, .int .i64 0, .int .i64 0, .int .i64 0, .int .i64 0, .int .i64 0, .int .i64 0, .slice none 0 0, .slice none 0 0, .int .i64 0, .int .i64 0, .int .i64 0, .int .i64 0, .bool false] 69)) = wA at *
  have hO5 : Only rb wA w5 := (((ho1.trans ho2).trans ho3).trans ho4).trans ho5
  have hz5 := hO5.size
  clear ho1 ho2 ho3 ho4 ho5 hr1 hr2 hr3 hr4
  generalize hx1 : (stepI t s).1 = x1 at *
  generalize hx2 : (stepI t (stepI t s).2).1 = x2 at *
  generalize hx3 : (stepI t (stepI t (stepI t s).2).2).1 = x3 at *
  generalize hx4 : (stepI t (stepI t (stepI t (stepI t s).2).2).2).1 = x4 at *
  generalize hx5 : (stepI t (stepI t (stepI t (stepI t (stepI t s).2).2).2).2).1 = x5 at *
  generalize hs5 : (stepI t (stepI t (stepI t (stepI t (stepI t s).2).2).2).2).2 = s5 at *
  have HX1 := Lib.hid hx1
  have HX2 := Lib.hid hx2
  have HX3 := Lib.hid hx3
  have HX4 := Lib.hid hx4
  have HX5 := Lib.hid hx5
  have HS5 := Lib.hid hs5
  clear hx1 hx2 hx3 hx4 hx5 hs5
  have hM : (w5.alloc (.cells #[.int .i64 x1, .int .i64 x2, .int .i64 x3, .int .i64 x4, .int .i64 x5, .int .i64 0, .int .i64 0, .slice none 0 0, .slice none 0 0, .int .i64 0, .int .i64 0, .int .i64 0, .int .i64 0, .bool false] 69)).heap[w5.heap.size]? = some (.cells #[.int .i64 x1, .int .i64 x2, .int .i64 x3, .int .i64 x4, .int .i64 x5, .int .i64 0, .int .i64 0, .slice none 0 0, .slice none 0 0, .int .i64 0, .int .i64 0, .int .i64 0, .int .i64 0, .bool false] 69 (0, 0)) := heap_alloc_new _ _
  have hO6 : Only rb wA (w5.alloc (.cells #[.int .i64 x1, .int .i64 x2, .int .i64 x3, .int .i64 x4, .int .i64 x5, .int .i64 0, .int .i64 0, .slice none 0 0, .slice none 0 0, .int .i64 0, .int .i64 0, .int .i64 0, .int .i64 0, .bool false] 69)) := hO5.trans (Only.of_below ((Below.refl _ _).alloc (Nat.le_refl _) _))
  have hr6 : Rdr rb t s5 (w5.alloc (.cells #[.int .i64 x1, .int .i64 x2, .int .i64 x3, .int .i64 x4, .int .i64 x5, .int .i64 0, .int .i64 0, .slice none 0 0, .slice none 0 0, .int .i64 0, .int .i64 0, .int .i64 0, .int .i64 0, .bool false] 69)) := hr5.alloc _
  have hz6 : (w5.alloc (.cells #[.int .i64 x1, .int .i64 x2, .int .i64 x3, .int .i64 x4, .int .i64 x5, .int .i64 0, .int .i64 0, .slice none 0 0, .slice none 0 0, .int .i64 0, .int .i64 0, .int .i64 0, .int .i64 0, .bool false] 69)).heap.size = w5.heap.size + 1 := World.size_alloc _ _
  generalize hw6 : w5.alloc (.cells #[.int .i64 x1, .int .i64 x2, .int .i64 x3, .int .i64 x4, .int .i64 x5, .int .i64 0, .int .i64 0, .slice none 0 0, .slice none 0 0, .int .i64 0, .int .i64 0, .int .i64 0, .int .i64 0, .bool false] 69) = w6 at *
  generalize hmb : w5.heap.size = mb at *
  clear hr5 hO5 hw6 hmb hwA
  have m0 := Lib.cell_of_heap hM 0
  simp only [List.getElem?_toArray, List.getElem?_cons_zero] at m0
  go_wp2_with fail
  refine (carries_any _ _).mono ?_
  rintro e _ ⟨rfl, rfl⟩
  rw [k2]
  go_wp2_with fail
  clear m0
  refine (number_any rb t s5 _ hr6 ht).mono ?_
  rintro e u1 ⟨rfl, hq1, ho1⟩
  go_wp2_with fail
  refine (number_any rb t _ _ hq1 ht).mono ?_
  rintro e u2 ⟨rfl, hq2, ho2⟩
  go_wp2_with fail
  refine (number_any rb t _ _ hq2 ht).mono ?_
  rintro e u3 ⟨rfl, hq3, ho3⟩
  go_wp2_with fail
  refine (number_any rb t _ _ hq3 ht).mono ?_
  rintro e u4 ⟨rfl, hq4, ho4⟩
  go_wp2_with fail
  refine (truth_any rb t _ _ hq4 ht).mono ?_
  rintro e u5 ⟨rfl, hq5, ho5⟩
  have hO7 : Only rb w6 u5 := (((ho1.trans ho2).trans ho3).trans ho4).trans ho5
  have hM7 := (hO7.block mb (heap_lt hM) (by omega)).trans hM
  have hz7 := hO7.size
  clear ho1 ho2 ho3 ho4 ho5 hq1 hq2 hq3 hq4
  generalize hy1 : (stepI t s5).1 = y1 at *
  generalize hy2 : (stepI t (stepI t s5).2).1 = y2 at *
  generalize hy3 : (stepI t (stepI t (stepI t s5).2).2).1 = y3 at *
  generalize hy4 : (stepI t (stepI t (stepI t (stepI t s5).2).2).2).1 = y4 at *
  generalize hy5 : (stepT t (stepI t (stepI t (stepI t (stepI t s5).2).2).2).2).1 = y5 at *
  generalize hs6 : (stepT t (stepI t (stepI t (stepI t (stepI t s5).2).2).2).2).2 = s6 at *
  have HY1 := Lib.hid hy1
  have HY2 := Lib.hid hy2
  have HY3 := Lib.hid hy3
  have HY4 := Lib.hid hy4
  have HY5 := Lib.hid hy5
  have HS6 := Lib.hid hs6
  clear hy1 hy2 hy3 hy4 hy5 hs6
  have g9 := Lib.cell_of_heap hM7 9
  have gf9 := Lib.frozen_of_heap hM7 9
  have g10 := Lib.cell_of_heap hM7 10
  have gf10 := Lib.frozen_of_heap hM7 10
  have g11 := Lib.cell_of_heap hM7 11
  have gf11 := Lib.frozen_of_heap hM7 11
  have g12 := Lib.cell_of_heap hM7 12
  have gf12 := Lib.frozen_of_heap hM7 12
  have g13 := Lib.cell_of_heap hM7 13
  have gf13 := Lib.frozen_of_heap hM7 13
  simp only [List.getElem?_toArray, List.getElem?_cons_succ, List.getElem?_cons_zero] at g9 g10 g11 g12 g13
  have hM8 : (((((u5.setCell ⟨mb, 9, none⟩ (.int .i64 y1)).setCell ⟨mb, 10, none⟩ (.int .i64 y2)).setCell ⟨mb, 11, none⟩ (.int .i64 y3)).setCell ⟨mb, 12, none⟩ (.int .i64 y4)).setCell ⟨mb, 13, none⟩ (.bool y5)).heap[mb]? = some (.cells #[.int .i64 x1, .int .i64 x2, .int .i64 x3, .int .i64 x4, .int .i64 x5, .int .i64 0, .int .i64 0, .slice none 0 0, .slice none 0 0, .int .i64 y1, .int .i64 y2, .int .i64 y3, .int .i64 y4, .bool y5] 69 (0, 0)) := by
    have := (heap_set _ _ 13 (.bool y5) _ _ _ (heap_set _ _ 12 (.int .i64 y4) _ _ _ (heap_set _ _ 11 (.int .i64 y3) _ _ _ (heap_set _ _ 10 (.int .i64 y2) _ _ _ (heap_set _ _ 9 (.int .i64 y1) _ _ _ hM7)))))
    simpa using this
  have hO8 : Only rb wA (((((u5.setCell ⟨mb, 9, none⟩ (.int .i64 y1)).setCell ⟨mb, 10, none⟩ (.int .i64 y2)).setCell ⟨mb, 11, none⟩ (.int .i64 y3)).setCell ⟨mb, 12, none⟩ (.int .i64 y4)).setCell ⟨mb, 13, none⟩ (.bool y5)) := (only_new (only_new (only_new (only_new (only_new (hO6.trans hO7) (by omega) _ _) (by omega) _ _) (by omega) _ _) (by omega) _ _) (by omega) _ _)
  have hr8 : Rdr rb t s6 (((((u5.setCell ⟨mb, 9, none⟩ (.int .i64 y1)).setCell ⟨mb, 10, none⟩ (.int .i64 y2)).setCell ⟨mb, 11, none⟩ (.int .i64 y3)).setCell ⟨mb, 12, none⟩ (.int .i64 y4)).setCell ⟨mb, 13, none⟩ (.bool y5)) := ⟨((Below.heap_setCell _ _ _ _ (show rb ≠ mb by omega)).trans ((Below.heap_setCell _ _ _ _ (show rb ≠ mb by omega)).trans ((Below.heap_setCell _ _ _ _ (show rb ≠ mb by omega)).trans ((Below.heap_setCell _ _ _ _ (show rb ≠ mb by omega)).trans ((Below.heap_setCell _ _ _ _ (show rb ≠ mb by omega)).trans hq5.1))))), hq5.2⟩
  have hc0 := Lib.cell_of_heap hM8 0
  simp only [List.getElem?_toArray, List.getElem?_cons_zero] at hc0
  clear hM
  have hM := hM8
  have hres := (hO8.block w.heap.size (by omega) (by omega)).trans hrA
  have c0 := Lib.cell_of_heap hM 0
  have c1 := Lib.cell_of_heap hM 1
  have c2 := Lib.cell_of_heap hM 2
  have c3 := Lib.cell_of_heap hM 3
  have c4 := Lib.cell_of_heap hM 4
  have c5 := Lib.cell_of_heap hM 5
  have c6 := Lib.cell_of_heap hM 6
  have c7 := Lib.cell_of_heap hM 7
  have c8 := Lib.cell_of_heap hM 8
  have c9 := Lib.cell_of_heap hM 9
  have c10 := Lib.cell_of_heap hM 10
  have c11 := Lib.cell_of_heap hM 11
  have c12 := Lib.cell_of_heap hM 12
  have c13 := Lib.cell_of_heap hM 13
  simp only [List.getElem?_toArray, List.getElem?_cons_succ, List.getElem?_cons_zero] at c0 c1 c2 c3 c4 c5 c6 c7 c8 c9 c10 c11 c12 c13
  have d0 := Lib.cell_of_heap hres 0
  have df0 := Lib.frozen_of_heap hres 0
  have d1 := Lib.cell_of_heap hres 1
  have df1 := Lib.frozen_of_heap hres 1
  have d2 := Lib.cell_of_heap hres 2
  have df2 := Lib.frozen_of_heap hres 2
  have d3 := Lib.cell_of_heap hres 3
  have df3 := Lib.frozen_of_heap hres 3
  have d4 := Lib.cell_of_heap hres 4
  have df4 := Lib.frozen_of_heap hres 4
  have d5 := Lib.cell_of_heap hres 5
  have df5 := Lib.frozen_of_heap hres 5
  have d6 := Lib.cell_of_heap hres 6
  have df6 := Lib.frozen_of_heap hres 6
  have d7 := Lib.cell_of_heap hres 7
  have df7 := Lib.frozen_of_heap hres 7
  have d8 := Lib.cell_of_heap hres 8
  have df8 := Lib.frozen_of_heap hres 8
  have d9 := Lib.cell_of_heap hres 9
  have df9 := Lib.frozen_of_heap hres 9
  have d10 := Lib.cell_of_heap hres 10
  have df10 := Lib.frozen_of_heap hres 10
  have d11 := Lib.cell_of_heap hres 11
  have df11 := Lib.frozen_of_heap hres 11
  have d12 := Lib.cell_of_heap hres 12
  have df12 := Lib.frozen_of_heap hres 12
  have d13 := Lib.cell_of_heap hres 13
  have df13 := Lib.frozen_of_heap hres 13
  simp only [List.getElem?_toArray, List.getElem?_cons_succ, List.getElem?_cons_zero] at d0 d1 d2 d3 d4 d5 d6 d7 d8 d9 d10 d11 d12 d13
  go_wp2_with fail
  have hW : (((((((((((((((((((u5.setCell ⟨mb, 9, none⟩ (.int .i64 y1)).setCell ⟨mb, 10, none⟩ (.int .i64 y2)).setCell ⟨mb, 11, none⟩ (.int .i64 y3)).setCell ⟨mb, 12, none⟩ (.int .i64 y4)).setCell ⟨mb, 13, none⟩ (.bool y5)).setCell ⟨w.heap.size, 0, none⟩ (.int .i64 x1)).setCell ⟨w.heap.size, 1, none⟩ (.int .i64 x2)).setCell ⟨w.heap.size, 2, none⟩ (.int .i64 x3)).setCell ⟨w.heap.size, 3, none⟩ (.int .i64 x4)).setCell ⟨w.heap.size, 4, none⟩ (.int .i64 x5)).setCell ⟨w.heap.size, 5, none⟩ (.int .i64 0)).setCell ⟨w.heap.size, 6, none⟩ (.int .i64 0)).setCell ⟨w.heap.size, 7, none⟩ (.slice none 0 0)).setCell ⟨w.heap.size, 8, none⟩ (.slice none 0 0)).setCell ⟨w.heap.size, 9, none⟩ (.int .i64 y1)).setCell ⟨w.heap.size, 10, none⟩ (.int .i64 y2)).setCell ⟨w.heap.size, 11, none⟩ (.int .i64 y3)).setCell ⟨w.heap.size, 12, none⟩ (.int .i64 y4)).setCell ⟨w.heap.size, 13, none⟩ (.bool y5)).heap[w.heap.size]? = some (.cells #[.int .i64 x1, .int .i64 x2, .int .i64 x3, .int .i64 x4, .int .i64 x5, .int .i64 0, .int .i64 0, .slice none 0 0, .slice none 0 0, .int .i64 y1, .int .i64 y2, .int .i64 y3, .int .i64 y4, .bool y5] 69 (0, 0)) := by
    have := (heap_set _ _ 13 (.bool y5) _ _ _ (heap_set _ _ 12 (.int .i64 y4) _ _ _ (heap_set _ _ 11 (.int .i64 y3) _ _ _ (heap_set _ _ 10 (.int .i64 y2) _ _ _ (heap_set _ _ 9 (.int .i64 y1) _ _ _ (heap_set _ _ 8 (.slice none 0 0) _ _ _ (heap_set _ _ 7 (.slice none 0 0) _ _ _ (heap_set _ _ 6 (.int .i64 0) _ _ _ (heap_set _ _ 5 (.int .i64 0) _ _ _ (heap_set _ _ 4 (.int .i64 x5) _ _ _ (heap_set _ _ 3 (.int .i64 x4) _ _ _ (heap_set _ _ 2 (.int .i64 x3) _ _ _ (heap_set _ _ 1 (.int .i64 x2) _ _ _ (heap_set _ _ 0 (.int .i64 x1) _ _ _ hres))))))))))))))
    simpa using this
  have e0 : (((((((((((((((((((u5.setCell ⟨mb, 9, none⟩ (.int .i64 y1)).setCell ⟨mb, 10, none⟩ (.int .i64 y2)).setCell ⟨mb, 11, none⟩ (.int .i64 y3)).setCell ⟨mb, 12, none⟩ (.int .i64 y4)).setCell ⟨mb, 13, none⟩ (.bool y5)).setCell ⟨w.heap.size, 0, none⟩ (.int .i64 x1)).setCell ⟨w.heap.size, 1, none⟩ (.int .i64 x2)).setCell ⟨w.heap.size, 2, none⟩ (.int .i64 x3)).setCell ⟨w.heap.size, 3, none⟩ (.int .i64 x4)).setCell ⟨w.heap.size, 4, none⟩ (.int .i64 x5)).setCell ⟨w.heap.size, 5, none⟩ (.int .i64 0)).setCell ⟨w.heap.size, 6, none⟩ (.int .i64 0)).setCell ⟨w.heap.size, 7, none⟩ (.slice none 0 0)).setCell ⟨w.heap.size, 8, none⟩ (.slice none 0 0)).setCell ⟨w.heap.size, 9, none⟩ (.int .i64 y1)).setCell ⟨w.heap.size, 10, none⟩ (.int .i64 y2)).setCell ⟨w.heap.size, 11, none⟩ (.int .i64 y3)).setCell ⟨w.heap.size, 12, none⟩ (.int .i64 y4)).setCell ⟨w.heap.size, 13, none⟩ (.bool y5)).cell? ⟨w.heap.size, 0, none⟩ = some (.int .i64 x1) := by rw [Lib.cell_of_heap hW]; rfl
  have e1 : (((((((((((((((((((u5.setCell ⟨mb, 9, none⟩ (.int .i64 y1)).setCell ⟨mb, 10, none⟩ (.int .i64 y2)).setCell ⟨mb, 11, none⟩ (.int .i64 y3)).setCell ⟨mb, 12, none⟩ (.int .i64 y4)).setCell ⟨mb, 13, none⟩ (.bool y5)).setCell ⟨w.heap.size, 0, none⟩ (.int .i64 x1)).setCell ⟨w.heap.size, 1, none⟩ (.int .i64 x2)).setCell ⟨w.heap.size, 2, none⟩ (.int .i64 x3)).setCell ⟨w.heap.size, 3, none⟩ (.int .i64 x4)).setCell ⟨w.heap.size, 4, none⟩ (.int .i64 x5)).setCell ⟨w.heap.size, 5, none⟩ (.int .i64 0)).setCell ⟨w.heap.size, 6, none⟩ (.int .i64 0)).setCell ⟨w.heap.size, 7, none⟩ (.slice none 0 0)).setCell ⟨w.heap.size, 8, none⟩ (.slice none 0 0)).setCell ⟨w.heap.size, 9, none⟩ (.int .i64 y1)).setCell ⟨w.heap.size, 10, none⟩ (.int .i64 y2)).setCell ⟨w.heap.size, 11, none⟩ (.int .i64 y3)).setCell ⟨w.heap.size, 12, none⟩ (.int .i64 y4)).setCell ⟨w.heap.size, 13, none⟩ (.bool y5)).cell? ⟨w.heap.size, 1, none⟩ = some (.int .i64 x2) := by rw [Lib.cell_of_heap hW]; rfl
  have e2 : (((((((((((((((((((u5.setCell ⟨mb, 9, none⟩ (.int .i64 y1)).setCell ⟨mb, 10, none⟩ (.int .i64 y2)).setCell ⟨mb, 11, none⟩ (.int .i64 y3)).setCell ⟨mb, 12, none⟩ (.int .i64 y4)).setCell ⟨mb, 13, none⟩ (.bool y5)).setCell ⟨w.heap.size, 0, none⟩ (.int .i64 x1)).setCell ⟨w.heap.size, 1, none⟩ (.int .i64 x2)).setCell ⟨w.heap.size, 2, none⟩ (.int .i64 x3)).setCell ⟨w.heap.size, 3, none⟩ (.int .i64 x4)).setCell ⟨w.heap.size, 4, none⟩ (.int .i64 x5)).setCell ⟨w.heap.size, 5, none⟩ (.int .i64 0)).setCell ⟨w.heap.size, 6, none⟩ (.int .i64 0)).setCell ⟨w.heap.size, 7, none⟩ (.slice none 0 0)).setCell ⟨w.heap.size, 8, none⟩ (.slice none 0 0)).setCell ⟨w.heap.size, 9, none⟩ (.int .i64 y1)).setCell ⟨w.heap.size, 10, none⟩ (.int .i64 y2)).setCell ⟨w.heap.size, 11, none⟩ (.int .i64 y3)).setCell ⟨w.heap.size, 12, none⟩ (.int .i64 y4)).setCell ⟨w.heap.size, 13, none⟩ (.bool y5)).cell? ⟨w.heap.size, 2, none⟩ = some (.int .i64 x3) := by rw [Lib.cell_of_heap hW]; rfl
  have e3 : (((((((((((((((((((u5.setCell ⟨mb, 9, none⟩ (.int .i64 y1)).setCell ⟨mb, 10, none⟩ (.int .i64 y2)).setCell ⟨mb, 11, none⟩ (.int .i64 y3)).setCell ⟨mb, 12, none⟩ (.int .i64 y4)).setCell ⟨mb, 13, none⟩ (.bool y5)).setCell ⟨w.heap.size, 0, none⟩ (.int .i64 x1)).setCell ⟨w.heap.size, 1, none⟩ (.int .i64 x2)).setCell ⟨w.heap.size, 2, none⟩ (.int .i64 x3)).setCell ⟨w.heap.size, 3, none⟩ (.int .i64 x4)).setCell ⟨w.heap.size, 4, none⟩ (.int .i64 x5)).setCell ⟨w.heap.size, 5, none⟩ (.int .i64 0)).setCell ⟨w.heap.size, 6, none⟩ (.int .i64 0)).setCell ⟨w.heap.size, 7, none⟩ (.slice none 0 0)).setCell ⟨w.heap.size, 8, none⟩ (.slice none 0 0)).setCell ⟨w.heap.size, 9, none⟩ (.int .i64 y1)).setCell ⟨w.heap.size, 10, none⟩ (.int .i64 y2)).setCell ⟨w.heap.size, 11, none⟩ (.int .i64 y3)).setCell ⟨w.heap.size, 12, none⟩ (.int .i64 y4)).setCell ⟨w.heap.size, 13, none⟩ (.bool y5)).cell? ⟨w.heap.size, 3, none⟩ = some (.int .i64 x4) := by rw [Lib.cell_of_heap hW]; rfl
  have e4 : (((((((((((((((((((u5.setCell ⟨mb, 9, none⟩ (.int .i64 y1)).setCell ⟨mb, 10, none⟩ (.int .i64 y2)).setCell ⟨mb, 11, none⟩ (.int .i64 y3)).setCell ⟨mb, 12, none⟩ (.int .i64 y4)).setCell ⟨mb, 13, none⟩ (.bool y5)).setCell ⟨w.heap.size, 0, none⟩ (.int .i64 x1)).setCell ⟨w.heap.size, 1, none⟩ (.int .i64 x2)).setCell ⟨w.heap.size, 2, none⟩ (.int .i64 x3)).setCell ⟨w.heap.size, 3, none⟩ (.int .i64 x4)).setCell ⟨w.heap.size, 4, none⟩ (.int .i64 x5)).setCell ⟨w.heap.size, 5, none⟩ (.int .i64 0)).setCell ⟨w.heap.size, 6, none⟩ (.int .i64 0)).setCell ⟨w.heap.size, 7, none⟩ (.slice none 0 0)).setCell ⟨w.heap.size, 8, none⟩ (.slice none 0 0)).setCell ⟨w.heap.size, 9, none⟩ (.int .i64 y1)).setCell ⟨w.heap.size, 10, none⟩ (.int .i64 y2)).setCell ⟨w.heap.size, 11, none⟩ (.int .i64 y3)).setCell ⟨w.heap.size, 12, none⟩ (.int .i64 y4)).setCell ⟨w.heap.size, 13, none⟩ (.bool y5)).cell? ⟨w.heap.size, 4, none⟩ = some (.int .i64 x5) := by rw [Lib.cell_of_heap hW]; rfl
  have e5 : (((((((((((((((((((u5.setCell ⟨mb, 9, none⟩ (.int .i64 y1)).setCell ⟨mb, 10, none⟩ (.int .i64 y2)).setCell ⟨mb, 11, none⟩ (.int .i64 y3)).setCell ⟨mb, 12, none⟩ (.int .i64 y4)).setCell ⟨mb, 13, none⟩ (.bool y5)).setCell ⟨w.heap.size, 0, none⟩ (.int .i64 x1)).setCell ⟨w.heap.size, 1, none⟩ (.int .i64 x2)).setCell ⟨w.heap.size, 2, none⟩ (.int .i64 x3)).setCell ⟨w.heap.size, 3, none⟩ (.int .i64 x4)).setCell ⟨w.heap.size, 4, none⟩ (.int .i64 x5)).setCell ⟨w.heap.size, 5, none⟩ (.int .i64 0)).setCell ⟨w.heap.size, 6, none⟩ (.int .i64 0)).setCell ⟨w.heap.size, 7, none⟩ (.slice none 0 0)).setCell ⟨w.heap.size, 8, none⟩ (.slice none 0 0)).setCell ⟨w.heap.size, 9, none⟩ (.int .i64 y1)).setCell ⟨w.heap.size, 10, none⟩ (.int .i64 y2)).setCell ⟨w.heap.size, 11, none⟩ (.int .i64 y3)).setCell ⟨w.heap.size, 12, none⟩ (.int .i64 y4)).setCell ⟨w.heap.size, 13, none⟩ (.bool y5)).cell? ⟨w.heap.size, 5, none⟩ = some (.int .i64 0) := by rw [Lib.cell_of_heap hW]; rfl
  have e6 : (((((((((((((((((((u5.setCell ⟨mb, 9, none⟩ (.int .i64 y1)).setCell ⟨mb, 10, none⟩ (.int .i64 y2)).setCell ⟨mb, 11, none⟩ (.int .i64 y3)).setCell ⟨mb, 12, none⟩ (.int .i64 y4)).setCell ⟨mb, 13, none⟩ (.bool y5)).setCell ⟨w.heap.size, 0, none⟩ (.int .i64 x1)).setCell ⟨w.heap.size, 1, none⟩ (.int .i64 x2)).setCell ⟨w.heap.size, 2, none⟩ (.int .i64 x3)).setCell ⟨w.heap.size, 3, none⟩ (.int .i64 x4)).setCell ⟨w.heap.size, 4, none⟩ (.int .i64 x5)).setCell ⟨w.heap.size, 5, none⟩ (.int .i64 0)).setCell ⟨w.heap.size, 6, none⟩ (.int .i64 0)).setCell ⟨w.heap.size, 7, none⟩ (.slice none 0 0)).setCell ⟨w.heap.size, 8, none⟩ (.slice none 0 0)).setCell ⟨w.heap.size, 9, none⟩ (.int .i64 y1)).setCell ⟨w.heap.size, 10, none⟩ (.int .i64 y2)).setCell ⟨w.heap.size, 11, none⟩ (.int .i64 y3)).setCell ⟨w.heap.size, 12, none⟩ (.int .i64 y4)).setCell ⟨w.heap.size, 13, none⟩ (.bool y5)).cell? ⟨w.heap.size, 6, none⟩ = some (.int .i64 0) := by rw [Lib.cell_of_heap hW]; rfl
  have e7 : (((((((((((((((((((u5.setCell ⟨mb, 9, none⟩ (.int .i64 y1)).setCell ⟨mb, 10, none⟩ (.int .i64 y2)).setCell ⟨mb, 11, none⟩ (.int .i64 y3)).setCell ⟨mb, 12, none⟩ (.int .i64 y4)).setCell ⟨mb, 13, none⟩ (.bool y5)).setCell ⟨w.heap.size, 0, none⟩ (.int .i64 x1)).setCell ⟨w.heap.size, 1, none⟩ (.int .i64 x2)).setCell ⟨w.heap.size, 2, none⟩ (.int .i64 x3)).setCell ⟨w.heap.size, 3, none⟩ (.int .i64 x4)).setCell ⟨w.heap.size, 4, none⟩ (.int .i64 x5)).setCell ⟨w.heap.size, 5, none⟩ (.int .i64 0)).setCell ⟨w.heap.size, 6, none⟩ (.int .i64 0)).setCell ⟨w.heap.size, 7, none⟩ (.slice none 0 0)).setCell ⟨w.heap.size, 8, none⟩ (.slice none 0 0)).setCell ⟨w.heap.size, 9, none⟩ (.int .i64 y1)).setCell ⟨w.heap.size, 10, none⟩ (.int .i64 y2)).setCell ⟨w.heap.size, 11, none⟩ (.int .i64 y3)).setCell ⟨w.heap.size, 12, none⟩ (.int .i64 y4)).setCell ⟨w.heap.size, 13, none⟩ (.bool y5)).cell? ⟨w.heap.size, 7, none⟩ = some (.slice none 0 0) := by rw [Lib.cell_of_heap hW]; rfl
  have e8 : (((((((((((((((((((u5.setCell ⟨mb, 9, none⟩ (.int .i64 y1)).setCell ⟨mb, 10, none⟩ (.int .i64 y2)).setCell ⟨mb, 11, none⟩ (.int .i64 y3)).setCell ⟨mb, 12, none⟩ (.int .i64 y4)).setCell ⟨mb, 13, none⟩ (.bool y5)).setCell ⟨w.heap.size, 0, none⟩ (.int .i64 x1)).setCell ⟨w.heap.size, 1, none⟩ (.int .i64 x2)).setCell ⟨w.heap.size, 2, none⟩ (.int .i64 x3)).setCell ⟨w.heap.size, 3, none⟩ (.int .i64 x4)).setCell ⟨w.heap.size, 4, none⟩ (.int .i64 x5)).setCell ⟨w.heap.size, 5, none⟩ (.int .i64 0)).setCell ⟨w.heap.size, 6, none⟩ (.int .i64 0)).setCell ⟨w.heap.size, 7, none⟩ (.slice none 0 0)).setCell ⟨w.heap.size, 8, none⟩ (.slice none 0 0)).setCell ⟨w.heap.size, 9, none⟩ (.int .i64 y1)).setCell ⟨w.heap.size, 10, none⟩ (.int .i64 y2)).setCell ⟨w.heap.size, 11, none⟩ (.int .i64 y3)).setCell ⟨w.heap.size, 12, none⟩ (.int .i64 y4)).setCell ⟨w.heap.size, 13, none⟩ (.bool y5)).cell? ⟨w.heap.size, 8, none⟩ = some (.slice none 0 0) := by rw [Lib.cell_of_heap hW]; rfl
  have e9 : (((((((((((((((((((u5.setCell ⟨mb, 9, none⟩ (.int .i64 y1)).setCell ⟨mb, 10, none⟩ (.int .i64 y2)).setCell ⟨mb, 11, none⟩ (.int .i64 y3)).setCell ⟨mb, 12, none⟩ (.int .i64 y4)).setCell ⟨mb, 13, none⟩ (.bool y5)).setCell ⟨w.heap.size, 0, none⟩ (.int .i64 x1)).setCell ⟨w.heap.size, 1, none⟩ (.int .i64 x2)).setCell ⟨w.heap.size, 2, none⟩ (.int .i64 x3)).setCell ⟨w.heap.size, 3, none⟩ (.int .i64 x4)).setCell ⟨w.heap.size, 4, none⟩ (.int .i64 x5)).setCell ⟨w.heap.size, 5, none⟩ (.int .i64 0)).setCell ⟨w.heap.size, 6, none⟩ (.int .i64 0)).setCell ⟨w.heap.size, 7, none⟩ (.slice none 0 0)).setCell ⟨w.heap.size, 8, none⟩ (.slice none 0 0)).setCell ⟨w.heap.size, 9, none⟩ (.int .i64 y1)).setCell ⟨w.heap.size, 10, none⟩ (.int .i64 y2)).setCell ⟨w.heap.size, 11, none⟩ (.int .i64 y3)).setCell ⟨w.heap.size, 12, none⟩ (.int .i64 y4)).setCell ⟨w.heap.size, 13, none⟩ (.bool y5)).cell? ⟨w.heap.size, 9, none⟩ = some (.int .i64 y1) := by rw [Lib.cell_of_heap hW]; rfl
  have e10 : (((((((((((((((((((u5.setCell ⟨mb, 9, none⟩ (.int .i64 y1)).setCell ⟨mb, 10, none⟩ (.int .i64 y2)).setCell ⟨mb, 11, none⟩ (.int .i64 y3)).setCell ⟨mb, 12, none⟩ (.int .i64 y4)).setCell ⟨mb, 13, none⟩ (.bool y5)).setCell ⟨w.heap.size, 0, none⟩ (.int .i64 x1)).setCell ⟨w.heap.size, 1, none⟩ (.int .i64 x2)).setCell ⟨w.heap.size, 2, none⟩ (.int .i64 x3)).setCell ⟨w.heap.size, 3, none⟩ (.int .i64 x4)).setCell ⟨w.heap.size, 4, none⟩ (.int .i64 x5)).setCell ⟨w.heap.size, 5, none⟩ (.int .i64 0)).setCell ⟨w.heap.size, 6, none⟩ (.int .i64 0)).setCell ⟨w.heap.size, 7, none⟩ (.slice none 0 0)).setCell ⟨w.heap.size, 8, none⟩ (.slice none 0 0)).setCell ⟨w.heap.size, 9, none⟩ (.int .i64 y1)).setCell ⟨w.heap.size, 10, none⟩ (.int .i64 y2)).setCell ⟨w.heap.size, 11, none⟩ (.int .i64 y3)).setCell ⟨w.heap.size, 12, none⟩ (.int .i64 y4)).setCell ⟨w.heap.size, 13, none⟩ (.bool y5)).cell? ⟨w.heap.size, 10, none⟩ = some (.int .i64 y2) := by rw [Lib.cell_of_heap hW]; rfl
  have e11 : (((((((((((((((((((u5.setCell ⟨mb, 9, none⟩ (.int .i64 y1)).setCell ⟨mb, 10, none⟩ (.int .i64 y2)).setCell ⟨mb, 11, none⟩ (.int .i64 y3)).setCell ⟨mb, 12, none⟩ (.int .i64 y4)).setCell ⟨mb, 13, none⟩ (.bool y5)).setCell ⟨w.heap.size, 0, none⟩ (.int .i64 x1)).setCell ⟨w.heap.size, 1, none⟩ (.int .i64 x2)).setCell ⟨w.heap.size, 2, none⟩ (.int .i64 x3)).setCell ⟨w.heap.size, 3, none⟩ (.int .i64 x4)).setCell ⟨w.heap.size, 4, none⟩ (.int .i64 x5)).setCell ⟨w.heap.size, 5, none⟩ (.int .i64 0)).setCell ⟨w.heap.size, 6, none⟩ (.int .i64 0)).setCell ⟨w.heap.size, 7, none⟩ (.slice none 0 0)).setCell ⟨w.heap.size, 8, none⟩ (.slice none 0 0)).setCell ⟨w.heap.size, 9, none⟩ (.int .i64 y1)).setCell ⟨w.heap.size, 10, none⟩ (.int .i64 y2)).setCell ⟨w.heap.size, 11, none⟩ (.int .i64 y3)).setCell ⟨w.heap.size, 12, none⟩ (.int .i64 y4)).setCell ⟨w.heap.size, 13, none⟩ (.bool y5)).cell? ⟨w.heap.size, 11, none⟩ = some (.int .i64 y3) := by rw [Lib.cell_of_heap hW]; rfl
  have e12 : (((((((((((((((((((u5.setCell ⟨mb, 9, none⟩ (.int .i64 y1)).setCell ⟨mb, 10, none⟩ (.int .i64 y2)).setCell ⟨mb, 11, none⟩ (.int .i64 y3)).setCell ⟨mb, 12, none⟩ (.int .i64 y4)).setCell ⟨mb, 13, none⟩ (.bool y5)).setCell ⟨w.heap.size, 0, none⟩ (.int .i64 x1)).setCell ⟨w.heap.size, 1, none⟩ (.int .i64 x2)).setCell ⟨w.heap.size, 2, none⟩ (.int .i64 x3)).setCell ⟨w.heap.size, 3, none⟩ (.int .i64 x4)).setCell ⟨w.heap.size, 4, none⟩ (.int .i64 x5)).setCell ⟨w.heap.size, 5, none⟩ (.int .i64 0)).setCell ⟨w.heap.size, 6, none⟩ (.int .i64 0)).setCell ⟨w.heap.size, 7, none⟩ (.slice none 0 0)).setCell ⟨w.heap.size, 8, none⟩ (.slice none 0 0)).setCell ⟨w.heap.size, 9, none⟩ (.int .i64 y1)).setCell ⟨w.heap.size, 10, none⟩ (.int .i64 y2)).setCell ⟨w.heap.size, 11, none⟩ (.int .i64 y3)).setCell ⟨w.heap.size, 12, none⟩ (.int .i64 y4)).setCell ⟨w.heap.size, 13, none⟩ (.bool y5)).cell? ⟨w.heap.size, 12, none⟩ = some (.int .i64 y4) := by rw [Lib.cell_of_heap hW]; rfl
  have e13 : (((((((((((((((((((u5.setCell ⟨mb, 9, none⟩ (.int .i64 y1)).setCell ⟨mb, 10, none⟩ (.int .i64 y2)).setCell ⟨mb, 11, none⟩ (.int .i64 y3)).setCell ⟨mb, 12, none⟩ (.int .i64 y4)).setCell ⟨mb, 13, none⟩ (.bool y5)).setCell ⟨w.heap.size, 0, none⟩ (.int .i64 x1)).setCell ⟨w.heap.size, 1, none⟩ (.int .i64 x2)).setCell ⟨w.heap.size, 2, none⟩ (.int .i64 x3)).setCell ⟨w.heap.size, 3, none⟩ (.int .i64 x4)).setCell ⟨w.heap.size, 4, none⟩ (.int .i64 x5)).setCell ⟨w.heap.size, 5, none⟩ (.int .i64 0)).setCell ⟨w.heap.size, 6, none⟩ (.int .i64 0)).setCell ⟨w.heap.size, 7, none⟩ (.slice none 0 0)).setCell ⟨w.heap.size, 8, none⟩ (.slice none 0 0)).setCell ⟨w.heap.size, 9, none⟩ (.int .i64 y1)).setCell ⟨w.heap.size, 10, none⟩ (.int .i64 y2)).setCell ⟨w.heap.size, 11, none⟩ (.int .i64 y3)).setCell ⟨w.heap.size, 12, none⟩ (.int .i64 y4)).setCell ⟨w.heap.size, 13, none⟩ (.bool y5)).cell? ⟨w.heap.size, 13, none⟩ = some (.bool y5) := by rw [Lib.cell_of_heap hW]; rfl
  refine bodyPost_ret (v := .agg #[.int .i64 x1, .int .i64 x2, .int .i64 x3, .int .i64 x4, .int .i64 x5, .int .i64 0, .int .i64 0, .slice none 0 0, .slice none 0 0, .int .i64 y1, .int .i64 y2, .int .i64 y3, .int .i64 y4, .bool y5]) (by simp [results, Try.results86, go_sem, e0, e1, e2, e3, e4, e5, e6, e7, e8, e9, e10, e11, e12, e13]) rfl ?_
  have hm' : (⟨x1, x2, x3, x4, x5, 0, 0, [], [], y1, y2, y3, y4, y5⟩ : Msg) = (parseM t s).1 := by
    simp [parseM, parseR, HX1.out, HX2.out, HX3.out, HX4.out, HX5.out, HS5.out, k1, k2, HY1.out, HY2.out, HY3.out, HY4.out, HY5.out]
  have hs' : (parseM t s).2 = s6 := by
    simp [parseM, parseR, HX1.out, HS5.out, k1, k2, HS6.out]
  refine ⟨_, .slice none 0 0, .slice none 0 0, u5.heap.size, hm', rfl, by omega, (own_set (own_set (own_set (own_set (own_set (own_set (own_set (own_set (own_set (own_set (own_set (own_set (own_set (own_set (World.ownsRow_nil _ _ _ _) _ _ _ (by omega)) _ _ _ (by omega)) _ _ _ (by omega)) _ _ _ (by omega)) _ _ _ (by omega)) _ _ _ (by omega)) _ _ _ (by omega)) _ _ _ (by omega)) _ _ _ (by omega)) _ _ _ (by omega)) _ _ _ (by omega)) _ _ _ (by omega)) _ _ _ (by omega)) _ _ _ (by omega)), (own_set (own_set (own_set (own_set (own_set (own_set (own_set (own_set (own_set (own_set (own_set (own_set (own_set (own_set (World.ownsRow_nil _ _ _ _) _ _ _ (by omega)) _ _ _ (by omega)) _ _ _ (by omega)) _ _ _ (by omega)) _ _ _ (by omega)) _ _ _ (by omega)) _ _ _ (by omega)) _ _ _ (by omega)) _ _ _ (by omega)) _ _ _ (by omega)) _ _ _ (by omega)) _ _ _ (by omega)) _ _ _ (by omega)) _ _ _ (by omega)), ?_, (only_new (only_new (only_new (only_new (only_new (only_new (only_new (only_new (only_new (only_new (only_new (only_new (only_new (only_new (hOA.trans hO8) (by omega) _ _) (by omega) _ _) (by omega) _ _) (by omega) _ _) (by omega) _ _) (by omega) _ _) (by omega) _ _) (by omega) _ _) (by omega) _ _) (by omega) _ _) (by omega) _ _) (by omega) _ _) (by omega) _ _) (by omega) _ _)⟩
  rw [hs']
  exact ⟨((Below.heap_setCell _ _ _ _ (show rb ≠ w.heap.size by omega)).trans ((Below.heap_setCell _ _ _ _ (show rb ≠ w.heap.size by omega)).trans ((Below.heap_setCell _ _ _ _ (show rb ≠ w.heap.size by omega)).trans ((Below.heap_setCell _ _ _ _ (show rb ≠ w.heap.size by omega)).trans ((Below.heap_setCell _ _ _ _ (show rb ≠ w.heap.size by omega)).trans ((Below.heap_setCell _ _ _ _ (show rb ≠ w.heap.size by omega)).trans ((Below.heap_setCell _ _ _ _ (show rb ≠ w.heap.size by omega)).trans ((Below.heap_setCell _ _ _ _ (show rb ≠ w.heap.size by omega)).trans ((Below.heap_setCell _ _ _ _ (show rb ≠ w.heap.size by omega)).trans ((Below.heap_setCell _ _ _ _ (show rb ≠ w.heap.size by omega)).trans ((Below.heap_setCell _ _ _ _ (show rb ≠ w.heap.size by omega)).trans ((Below.heap_setCell _ _ _ _ (show rb ≠ w.heap.size by omega)).trans ((Below.heap_setCell _ _ _ _ (show rb ≠ w.heap.size by omega)).trans ((Below.heap_setCell _ _ _ _ (show rb ≠ w.heap.size by omega)).trans hr8.1)))))))))))))), hr8.2⟩
end Go.Proofs.Ytlpkkcodmoklaaa
