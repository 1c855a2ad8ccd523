/- The walk of the reading of a message. -/
import Derived.Test.YtlpkkcodmoklaaaMsgDecA
namespace Go.Proofs.Ytlpkkcodmoklaaa
set_option linter.unusedVariables false
set_option linter.unusedSimpArgs false
open Go.RowKit
attribute [local go_sem] bs_size bs_get bs_append bs_extract bs_toList
/-- The report that the program reads. -/
def parseR (t : List UInt8) (s : Int × Bool) : (Int × Int × Int × Int × Bool) × Int × Bool :=
  let r1 := stepI t s
  let r2 := stepI t r1.2
  let r3 := stepI t r2.2
  let r4 := stepI t r3.2
  let r5 := stepT t r4.2
  ((r1.1, r2.1, r3.1, r4.1, r5.1), r5.2)
/-- The message that the program reads. -/
def parseM (t : List UInt8) (s : Int × Bool) : Msg × Int × Bool :=
  let r1 := stepI t s
  let r2 := stepI t r1.2
  let r3 := stepI t r2.2
  let r4 := stepI t r3.2
  let r5 := stepI t r4.2
  let x := if carB r1.1 then parseA t r5.2 else ((0, 0, [], []), r5.2)
  let y := if r1.1 == 1 then parseR t x.2 else ((0, 0, 0, 0, false), x.2)
  (⟨r1.1, r2.1, r3.1, r4.1, r5.1, x.1.1, x.1.2.1, x.1.2.2.1, x.1.2.2.2, y.1.1, y.1.2.1, y.1.2.2.1, y.1.2.2.2.1, y.1.2.2.2.2⟩, y.2)
/-- What the reading of a message leaves. -/
def MsgOut (w : World) (rb : Nat) (t : List UInt8) (s : Int × Bool) (e : Ending) (w' : World) : Prop :=
  ∃ (m : Msg) (v v2 : Value) (base : Nat), m = (parseM t s).1 ∧ e = .returned (.agg #[.int .i64 m.kind, .int .i64 m.fro, .int .i64 m.to, .int .i64 m.seq, .int .i64 m.time, .int .i64 m.aseq, .int .i64 m.aend, v, v2, .int .i64 m.min, .int .i64 m.speed, .int .i64 m.mode, .int .i64 m.acc, .bool m.whole]) ∧ w.heap.size ≤ base ∧ w'.ownsRow base 100 4 v m.prof.length (m.prof.flatMap Seg.cells) ∧ w'.ownsRow base 77 2 v2 m.links.length (m.links.flatMap Lnk.cells) ∧ Rdr rb t (parseM t s).2 w' ∧ Only rb w w'
set_option maxRecDepth 100000 in
set_option maxHeartbeats 8000000 in
theorem message_none (rb : Nat) (t : List UInt8) (s : Int × Bool) (w : World) (h : Rdr rb t s w) (ht : t.length ≤ 100000) (k1 : ((stepI t s).1 == 1) = false) (k2 : carB (stepI t s).1 = false) :
    Calls Try.prog 86 #[.pointer (some ⟨rb, 0, none⟩)] w fun e w' => MsgOut w rb t s e w' := by

  have hrb := heap_lt h.1
  go_enter Try.func86, Try.ntmps86
  go_wp2_with fail
  refine (number_any rb t s _ (h.alloc _) ht).mono ?_
  rintro e w1 ⟨rfl, hr1, ho1⟩
  go_wp2_with fail
  refine (number_any rb t _ _ hr1 ht).mono ?_
  rintro e w2 ⟨rfl, hr2, ho2⟩
  go_wp2_with fail
  refine (number_any rb t _ _ hr2 ht).mono ?_
  rintro e w3 ⟨rfl, hr3, ho3⟩
  go_wp2_with fail
  refine (number_any rb t _ _ hr3 ht).mono ?_
  rintro e w4 ⟨rfl, hr4, ho4⟩
  go_wp2_with fail
  refine (number_any rb t _ _ hr4 ht).mono ?_
  rintro e w5 ⟨rfl, hr5, ho5⟩
  go_wp2_with fail
  have hOA : Only rb w (w.alloc (.cells #[.int .i64 0, .int .i64 0, .int .i64 0, .int .i64 0, .int .i64 0, .int .i64 0, .int .i64 0, .slice none 0 0, .slice none 0 0, .int .i64 0, .int .i64 0, .int .i64 0, .int .i64 0, .bool false] 69)) := Only.of_below ((Below.refl _ _).alloc (Nat.le_refl _) _)
  have hrA : (w.alloc (.cells #[.int .i64 0, .int .i64 0, .int .i64 0, .int .i64 0, .int .i64 0, .int .i64 0, .int .i64 0, .slice none 0 0, .slice none 0 0, .int .i64 0, .int .i64 0, .int .i64 0, .int .i64 0, .bool false] 69)).heap[w.heap.size]? = some (.cells #[.int .i64 0, .int .i64 0, .int .i64 0, .int .i64 0, .int .i64 0, .int .i64 0, .int .i64 0, .slice none 0 0, .slice none 0 0, .int .i64 0, .int .i64 0, .int .i64 0, .int .i64 0, .bool false] 69 (0, 0)) := heap_alloc_new _ _
  have hzA : (w.alloc (.cells #[.int .i64 0, .int .i64 0, .int .i64 0, .int .i64 0, .int .i64 0, .int .i64 0, .int .i64 0, .slice none 0 0, .slice none 0 0, .int .i64 0, .int .i64 0, .int .i64 0, .int .i64 0, .bool false] 69)).heap.size = w.heap.size + 1 := World.size_alloc _ _
  generalize hwA : (w.alloc (.cells #[.int .i64 0, .int .i64 0, .int .i64 0, .int .i64 0, .int .i64 0, .int .i64 0, .int .i64 0, .slice none 0 0, .slice none 0 0, .int .i64 0, .int .i64 0, .int .i64 0, .int .i64 0, .bool false] 69)) = wA at *
  have hO5 : Only rb wA w5 := (((ho1.trans ho2).trans ho3).trans ho4).trans ho5
  have hz5 := hO5.size
  clear ho1 ho2 ho3 ho4 ho5 hr1 hr2 hr3 hr4
  generalize hx1 : (stepI t s).1 = x1 at *
  generalize hx2 : (stepI t (stepI t s).2).1 = x2 at *
  generalize hx3 : (stepI t (stepI t (stepI t s).2).2).1 = x3 at *
  generalize hx4 : (stepI t (stepI t (stepI t (stepI t s).2).2).2).1 = x4 at *
  generalize hx5 : (stepI t (stepI t (stepI t (stepI t (stepI t s).2).2).2).2).1 = x5 at *
  generalize hs5 : (stepI t (stepI t (stepI t (stepI t (stepI t s).2).2).2).2).2 = s5 at *
  have HX1 := Lib.hid hx1
  have HX2 := Lib.hid hx2
  have HX3 := Lib.hid hx3
  have HX4 := Lib.hid hx4
  have HX5 := Lib.hid hx5
  have HS5 := Lib.hid hs5
  clear hx1 hx2 hx3 hx4 hx5 hs5
  have hM : (w5.alloc (.cells #[.int .i64 x1, .int .i64 x2, .int .i64 x3, .int .i64 x4, .int .i64 x5, .int .i64 0, .int .i64 0, .slice none 0 0, .slice none 0 0, .int .i64 0, .int .i64 0, .int .i64 0, .int .i64 0, .bool false] 69)).heap[w5.heap.size]? = some (.cells #[.int .i64 x1, .int .i64 x2, .int .i64 x3, .int .i64 x4, .int .i64 x5, .int .i64 0, .int .i64 0, .slice none 0 0, .slice none 0 0, .int .i64 0, .int .i64 0, .int .i64 0, .int .i64 0, .bool false] 69 (0, 0)) := heap_alloc_new _ _
  have hO6 : Only rb wA (w5.alloc (.cells #[.int .i64 x1, .int .i64 x2, .int .i64 x3, .int .i64 x4, .int .i64 x5, .int .i64 0, .int .i64 0, .slice none 0 0, .slice none 0 0, .int .i64 0, .int .i64 0, .int .i64 0, .int .i64 0, .bool false] 69)) := hO5.trans (Only.of_below ((Below.refl _ _).alloc (Nat.le_refl _) _))
  have hr6 : Rdr rb t s5 (w5.alloc (.cells #[.int .i64 x1, .int .i64 x2, .int .i64 x3, .int .i64 x4, .int .i64 x5, .int .i64 0, .int .i64 0, .slice none 0 0, .slice none 0 0, .int .i64 0, .int .i64 0, .int .i64 0, .int .i64 0, .bool false] 69)) := hr5.alloc _
  have hz6 : (w5.alloc (.cells #[.int .i64 x1, .int .i64 x2, .int .i64 x3, .int .i64 x4, .int .i64 x5, .int .i64 0, .int .i64 0, .slice none 0 0, .slice none 0 0, .int .i64 0, .int .i64 0, .int .i64 0, .int .i64 0, .bool false] 69)).heap.size = w5.heap.size + 1 := World.size_alloc _ _
  generalize hw6 : w5.alloc (.cells #[.int .i64 x1, .int .i64 x2, .int .i64 x3, .int .i64 x4, .int .i64 x5, .int .i64 0, .int .i64 0, .slice none 0 0, .slice none 0 0, .int .i64 0, .int .i64 0, .int .i64 0, .int .i64 0, .bool false] 69) = w6 at *
  generalize hmb : w5.heap.size = mb at *
  clear hr5 hO5 hw6 hmb hwA
  have m0 := Lib.cell_of_heap hM 0
  simp only [List.getElem?_toArray, List.getElem?_cons_zero] at m0
  go_wp2_with fail
  refine (carries_any _ _).mono ?_
  rintro e _ ⟨rfl, rfl⟩
  rw [k2]
  clear m0
  have hres := (hO6.block w.heap.size (by omega) (by omega)).trans hrA
  have c0 := Lib.cell_of_heap hM 0
  have c1 := Lib.cell_of_heap hM 1
  have c2 := Lib.cell_of_heap hM 2
  have c3 := Lib.cell_of_heap hM 3
  have c4 := Lib.cell_of_heap hM 4
  have c5 := Lib.cell_of_heap hM 5
  have c6 := Lib.cell_of_heap hM 6
  have c7 := Lib.cell_of_heap hM 7
  have c8 := Lib.cell_of_heap hM 8
  have c9 := Lib.cell_of_heap hM 9
  have c10 := Lib.cell_of_heap hM 10
  have c11 := Lib.cell_of_heap hM 11
  have c12 := Lib.cell_of_heap hM 12
  have c13 := Lib.cell_of_heap hM 13
  simp only [List.getElem?_toArray, List.getElem?_cons_succ, List.getElem?_cons_zero] at c0 c1 c2 c3 c4 c5 c6 c7 c8 c9 c10 c11 c12 c13
  have d0 := Lib.cell_of_heap hres 0
  have df0 := Lib.frozen_of_heap hres 0
  have d1 := Lib.cell_of_heap hres 1
  have df1 := Lib.frozen_of_heap hres 1
  have d2 := Lib.cell_of_heap hres 2
  have df2 := Lib.frozen_of_heap hres 2
  have d3 := Lib.cell_of_heap hres 3
  have df3 := Lib.frozen_of_heap hres 3
  have d4 := Lib.cell_of_heap hres 4
  have df4 := Lib.frozen_of_heap hres 4
  have d5 := Lib.cell_of_heap hres 5
  have df5 := Lib.frozen_of_heap hres 5
  have d6 := Lib.cell_of_heap hres 6
  have df6 := Lib.frozen_of_heap hres 6
  have d7 := Lib.cell_of_heap hres 7
  have df7 := Lib.frozen_of_heap hres 7
  have d8 := Lib.cell_of_heap hres 8
  have df8 := Lib.frozen_of_heap hres 8
  have d9 := Lib.cell_of_heap hres 9
  have df9 := Lib.frozen_of_heap hres 9
  have d10 := Lib.cell_of_heap hres 10
  have df10 := Lib.frozen_of_heap hres 10
  have d11 := Lib.cell_of_heap hres 11
  have df11 := Lib.frozen_of_heap hres 11
  have d12 := Lib.cell_of_heap hres 12
  have df12 := Lib.frozen_of_heap hres 12
  have d13 := Lib.cell_of_heap hres 13
  have df13 := Lib.frozen_of_heap hres 13
  simp only [List.getElem?_toArray, List.getElem?_cons_succ, List.getElem?_cons_zero] at d0 d1 d2 d3 d4 d5 d6 d7 d8 d9 d10 d11 d12 d13
  go_wp2_with fail
  have hW : ((((((((((((((w6.setCell ⟨w.heap.size, 0, none⟩ (.int .i64 x1)).setCell ⟨w.heap.size, 1, none⟩ (.int .i64 x2)).setCell ⟨w.heap.size, 2, none⟩ (.int .i64 x3)).setCell ⟨w.heap.size, 3, none⟩ (.int .i64 x4)).setCell ⟨w.heap.size, 4, none⟩ (.int .i64 x5)).setCell ⟨w.heap.size, 5, none⟩ (.int .i64 0)).setCell ⟨w.heap.size, 6, none⟩ (.int .i64 0)).setCell ⟨w.heap.size, 7, none⟩ (.slice none 0 0)).setCell ⟨w.heap.size, 8, none⟩ (.slice none 0 0)).setCell ⟨w.heap.size, 9, none⟩ (.int .i64 0)).setCell ⟨w.heap.size, 10, none⟩ (.int .i64 0)).setCell ⟨w.heap.size, 11, none⟩ (.int .i64 0)).setCell ⟨w.heap.size, 12, none⟩ (.int .i64 0)).setCell ⟨w.heap.size, 13, none⟩ (.bool false)).heap[w.heap.size]? = some (.cells #[.int .i64 x1, .int .i64 x2, .int .i64 x3, .int .i64 x4, .int .i64 x5, .int .i64 0, .int .i64 0, .slice none 0 0, .slice none 0 0, .int .i64 0, .int .i64 0, .int .i64 0, .int .i64 0, .bool false] 69 (0, 0)) := by
    have := (heap_set _ _ 13 (.bool false) _ _ _ (heap_set _ _ 12 (.int .i64 0) _ _ _ (heap_set _ _ 11 (.int .i64 0) _ _ _ (heap_set _ _ 10 (.int .i64 0) _ _ _ (heap_set _ _ 9 (.int .i64 0) _ _ _ (heap_set _ _ 8 (.slice none 0 0) _ _ _ (heap_set _ _ 7 (.slice none 0 0) _ _ _ (heap_set _ _ 6 (.int .i64 0) _ _ _ (heap_set _ _ 5 (.int .i64 0) _ _ _ (heap_set _ _ 4 (.int .i64 x5) _ _ _ (heap_set _ _ 3 (.int .i64 x4) _ _ _ (heap_set _ _ 2 (.int .i64 x3) _ _ _ (heap_set _ _ 1 (.int .i64 x2) _ _ _ (heap_set _ _ 0 (.int .i64 x1) _ _ _ hres))))))))))))))
    simpa using this
  have e0 : ((((((((((((((w6.setCell ⟨w.heap.size, 0, none⟩ (.int .i64 x1)).setCell ⟨w.heap.size, 1, none⟩ (.int .i64 x2)).setCell ⟨w.heap.size, 2, none⟩ (.int .i64 x3)).setCell ⟨w.heap.size, 3, none⟩ (.int .i64 x4)).setCell ⟨w.heap.size, 4, none⟩ (.int .i64 x5)).setCell ⟨w.heap.size, 5, none⟩ (.int .i64 0)).setCell ⟨w.heap.size, 6, none⟩ (.int .i64 0)).setCell ⟨w.heap.size, 7, none⟩ (.slice none 0 0)).setCell ⟨w.heap.size, 8, none⟩ (.slice none 0 0)).setCell ⟨w.heap.size, 9, none⟩ (.int .i64 0)).setCell ⟨w.heap.size, 10, none⟩ (.int .i64 0)).setCell ⟨w.heap.size, 11, none⟩ (.int .i64 0)).setCell ⟨w.heap.size, 12, none⟩ (.int .i64 0)).setCell ⟨w.heap.size, 13, none⟩ (.bool false)).cell? ⟨w.heap.size, 0, none⟩ = some (.int .i64 x1) := by rw [Lib.cell_of_heap hW]; rfl
  have e1 : ((((((((((((((w6.setCell ⟨w.heap.size, 0, none⟩ (.int .i64 x1)).setCell ⟨w.heap.size, 1, none⟩ (.int .i64 x2)).setCell ⟨w.heap.size, 2, none⟩ (.int .i64 x3)).setCell ⟨w.heap.size, 3, none⟩ (.int .i64 x4)).setCell ⟨w.heap.size, 4, none⟩ (.int .i64 x5)).setCell ⟨w.heap.size, 5, none⟩ (.int .i64 0)).setCell ⟨w.heap.size, 6, none⟩ (.int .i64 0)).setCell ⟨w.heap.size, 7, none⟩ (.slice none 0 0)).setCell ⟨w.heap.size, 8, none⟩ (.slice none 0 0)).setCell ⟨w.heap.size, 9, none⟩ (.int .i64 0)).setCell ⟨w.heap.size, 10, none⟩ (.int .i64 0)).setCell ⟨w.heap.size, 11, none⟩ (.int .i64 0)).setCell ⟨w.heap.size, 12, none⟩ (.int .i64 0)).setCell ⟨w.heap.size, 13, none⟩ (.bool false)).cell? ⟨w.heap.size, 1, none⟩ = some (.int .i64 x2) := by rw [Lib.cell_of_heap hW]; rfl
  have e2 : ((((((((((((((w6.setCell ⟨w.heap.size, 0, none⟩ (.int .i64 x1)).setCell ⟨w.heap.size, 1, none⟩ (.int .i64 x2)).setCell ⟨w.heap.size, 2, none⟩ (.int .i64 x3)).setCell ⟨w.heap.size, 3, none⟩ (.int .i64 x4)).setCell ⟨w.heap.size, 4, none⟩ (.int .i64 x5)).setCell ⟨w.heap.size, 5, none⟩ (.int .i64 0)).setCell ⟨w.heap.size, 6, none⟩ (.int .i64 0)).setCell ⟨w.heap.size, 7, none⟩ (.slice none 0 0)).setCell ⟨w.heap.size, 8, none⟩ (.slice none 0 0)).setCell ⟨w.heap.size, 9, none⟩ (.int .i64 0)).setCell ⟨w.heap.size, 10, none⟩ (.int .i64 0)).setCell ⟨w.heap.size, 11, none⟩ (.int .i64 0)).setCell ⟨w.heap.size, 12, none⟩ (.int .i64 0)).setCell ⟨w.heap.size, 13, none⟩ (.bool false)).cell? ⟨w.heap.size, 2, none⟩ = some (.int .i64 x3) := by rw [Lib.cell_of_heap hW]; rfl
  have e3 : ((((((((((((((w6.setCell ⟨w.heap.size, 0, none⟩ (.int .i64 x1)).setCell ⟨w.heap.size, 1, none⟩ (.int .i64 x2)).setCell ⟨w.heap.size, 2, none⟩ (.int .i64 x3)).setCell ⟨w.heap.size, 3, none⟩ (.int .i64 x4)).setCell ⟨w.heap.size, 4, none⟩ (.int .i64 x5)).setCell ⟨w.heap.size, 5, none⟩ (.int .i64 0)).setCell ⟨w.heap.size, 6, none⟩ (.int .i64 0)).setCell ⟨w.heap.size, 7, none⟩ (.slice none 0 0)).setCell ⟨w.heap.size, 8, none⟩ (.slice none 0 0)).setCell ⟨w.heap.size, 9, none⟩ (.int .i64 0)).setCell ⟨w.heap.size, 10, none⟩ (.int .i64 0)).setCell ⟨w.heap.size, 11, none⟩ (.int .i64 0)).setCell ⟨w.heap.size, 12, none⟩ (.int .i64 0)).setCell ⟨w.heap.size, 13, none⟩ (.bool false)).cell? ⟨w.heap.size, 3, none⟩ = some (.int .i64 x4) := by rw [Lib.cell_of_heap hW]; rfl
  have e4 : ((((((((((((((w6.setCell ⟨w.heap.size, 0, none⟩ (.int .i64 x1)).setCell ⟨w.heap.size, 1, none⟩ (.int .i64 x2)).setCell ⟨w.heap.size, 2, none⟩ (.int .i64 x3)).setCell ⟨w.heap.size, 3, none⟩ (.int .i64 x4)).setCell ⟨w.heap.size, 4, none⟩ (.int .i64 x5)).setCell ⟨w.heap.size, 5, none⟩ (.int .i64 0)).setCell ⟨w.heap.size, 6, none⟩ (.int .i64 0)).setCell ⟨w.heap.size, 7, none⟩ (.slice none 0 0)).setCell ⟨w.heap.size, 8, none⟩ (.slice none 0 0)).setCell ⟨w.heap.size, 9, none⟩ (.int .i64 0)).setCell ⟨w.heap.size, 10, none⟩ (.int .i64 0)).setCell ⟨w.heap.size, 11, none⟩ (.int .i64 0)).setCell ⟨w.heap.size, 12, none⟩ (.int .i64 0)).setCell ⟨w.heap.size, 13, none⟩ (.bool false)).cell? ⟨w.heap.size, 4, none⟩ = some (.int .i64 x5) := by rw [Lib.cell_of_heap hW]; rfl
  have e5 : ((((((((((((((w6.setCell ⟨w.heap.size, 0, none⟩ (.int .i64 x1)).setCell ⟨w.heap.size, 1, none⟩ (.int .i64 x2)).setCell ⟨w.heap.size, 2, none⟩ (.int .i64 x3)).setCell ⟨w.heap.size, 3, none⟩ (.int .i64 x4)).setCell ⟨w.heap.size, 4, none⟩ (.int .i64 x5)).setCell ⟨w.heap.size, 5, none⟩ (.int .i64 0)).setCell ⟨w.heap.size, 6, none⟩ (.int .i64 0)).setCell ⟨w.heap.size, 7, none⟩ (.slice none 0 0)).setCell ⟨w.heap.size, 8, none⟩ (.slice none 0 0)).setCell ⟨w.heap.size, 9, none⟩ (.int .i64 0)).setCell ⟨w.heap.size, 10, none⟩ (.int .i64 0)).setCell ⟨w.heap.size, 11, none⟩ (.int .i64 0)).setCell ⟨w.heap.size, 12, none⟩ (.int .i64 0)).setCell ⟨w.heap.size, 13, none⟩ (.bool false)).cell? ⟨w.heap.size, 5, none⟩ = some (.int .i64 0) := by rw [Lib.cell_of_heap hW]; rfl
  have e6 : ((((((((((((((w6.setCell ⟨w.heap.size, 0, none⟩ (.int .i64 x1)).setCell ⟨w.heap.size, 1, none⟩ (.int .i64 x2)).setCell ⟨w.heap.size, 2, none⟩ (.int .i64 x3)).setCell ⟨w.heap.size, 3, none⟩ (.int .i64 x4)).setCell ⟨w.heap.size, 4, none⟩ (.int .i64 x5)).setCell ⟨w.heap.size, 5, none⟩ (.int .i64 0)).setCell ⟨w.heap.size, 6, none⟩ (.int .i64 0)).setCell ⟨w.heap.size, 7, none⟩ (.slice none 0 0)).setCell ⟨w.heap.size, 8, none⟩ (.slice none 0 0)).setCell ⟨w.heap.size, 9, none⟩ (.int .i64 0)).setCell ⟨w.heap.size, 10, none⟩ (.int .i64 0)).setCell ⟨w.heap.size, 11, none⟩ (.int .i64 0)).setCell ⟨w.heap.size, 12, none⟩ (.int .i64 0)).setCell ⟨w.heap.size, 13, none⟩ (.bool false)).cell? ⟨w.heap.size, 6, none⟩ = some (.int .i64 0) := by rw [Lib.cell_of_heap hW]; rfl
  have e7 : ((((((((((((((w6.setCell ⟨w.heap.size, 0, none⟩ (.int .i64 x1)).setCell ⟨w.heap.size, 1, none⟩ (.int .i64 x2)).setCell ⟨w.heap.size, 2, none⟩ (.int .i64 x3)).setCell ⟨w.heap.size, 3, none⟩ (.int .i64 x4)).setCell ⟨w.heap.size, 4, none⟩ (.int .i64 x5)).setCell ⟨w.heap.size, 5, none⟩ (.int .i64 0)).setCell ⟨w.heap.size, 6, none⟩ (.int .i64 0)).setCell ⟨w.heap.size, 7, none⟩ (.slice none 0 0)).setCell ⟨w.heap.size, 8, none⟩ (.slice none 0 0)).setCell ⟨w.heap.size, 9, none⟩ (.int .i64 0)).setCell ⟨w.heap.size, 10, none⟩ (.int .i64 0)).setCell ⟨w.heap.size, 11, none⟩ (.int .i64 0)).setCell ⟨w.heap.size, 12, none⟩ (.int .i64 0)).setCell ⟨w.heap.size, 13, none⟩ (.bool false)).cell? ⟨w.heap.size, 7, none⟩ = some (.slice none 0 0) := by rw [Lib.cell_of_heap hW]; rfl
  have e8 : ((((((((((((((w6.setCell ⟨w.heap.size, 0, none⟩ (.int .i64 x1)).setCell ⟨w.heap.size, 1, none⟩ (.int .i64 x2)).setCell ⟨w.heap.size, 2, none⟩ (.int .i64 x3)).setCell ⟨w.heap.size, 3, none⟩ (.int .i64 x4)).setCell ⟨w.heap.size, 4, none⟩ (.int .i64 x5)).setCell ⟨w.heap.size, 5, none⟩ (.int .i64 0)).setCell ⟨w.heap.size, 6, none⟩ (.int .i64 0)).setCell ⟨w.heap.size, 7, none⟩ (.slice none 0 0)).setCell ⟨w.heap.size, 8, none⟩ (.slice none 0 0)).setCell ⟨w.heap.size, 9, none⟩ (.int .i64 0)).setCell ⟨w.heap.size, 10, none⟩ (.int .i64 0)).setCell ⟨w.heap.size, 11, none⟩ (.int .i64 0)).setCell ⟨w.heap.size, 12, none⟩ (.int .i64 0)).setCell ⟨w.heap.size, 13, none⟩ (.bool false)).cell? ⟨w.heap.size, 8, none⟩ = some (.slice none 0 0) := by rw [Lib.cell_of_heap hW]; rfl
  have e9 : ((((((((((((((w6.setCell ⟨w.heap.size, 0, none⟩ (.int .i64 x1)).setCell ⟨w.heap.size, 1, none⟩ (.int .i64 x2)).setCell ⟨w.heap.size, 2, none⟩ (.int .i64 x3)).setCell ⟨w.heap.size, 3, none⟩ (.int .i64 x4)).setCell ⟨w.heap.size, 4, none⟩ (.int .i64 x5)).setCell ⟨w.heap.size, 5, none⟩ (.int .i64 0)).setCell ⟨w.heap.size, 6, none⟩ (.int .i64 0)).setCell ⟨w.heap.size, 7, none⟩ (.slice none 0 0)).setCell ⟨w.heap.size, 8, none⟩ (.slice none 0 0)).setCell ⟨w.heap.size, 9, none⟩ (.int .i64 0)).setCell ⟨w.heap.size, 10, none⟩ (.int .i64 0)).setCell ⟨w.heap.size, 11, none⟩ (.int .i64 0)).setCell ⟨w.heap.size, 12, none⟩ (.int .i64 0)).setCell ⟨w.heap.size, 13, none⟩ (.bool false)).cell? ⟨w.heap.size, 9, none⟩ = some (.int .i64 0) := by rw [Lib.cell_of_heap hW]; rfl
  have e10 : ((((((((((((((w6.setCell ⟨w.heap.size, 0, none⟩ (.int .i64 x1)).setCell ⟨w.heap.size, 1, none⟩ (.int .i64 x2)).setCell ⟨w.heap.size, 2, none⟩ (.int .i64 x3)).setCell ⟨w.heap.size, 3, none⟩ (.int .i64 x4)).setCell ⟨w.heap.size, 4, none⟩ (.int .i64 x5)).setCell ⟨w.heap.size, 5, none⟩ (.int .i64 0)).setCell ⟨w.heap.size, 6, none⟩ (.int .i64 0)).setCell ⟨w.heap.size, 7, none⟩ (.slice none 0 0)).setCell ⟨w.heap.size, 8, none⟩ (.slice none 0 0)).setCell ⟨w.heap.size, 9, none⟩ (.int .i64 0)).setCell ⟨w.heap.size, 10, none⟩ (.int .i64 0)).setCell ⟨w.heap.size, 11, none⟩ (.int .i64 0)).setCell ⟨w.heap.size, 12, none⟩ (.int .i64 0)).setCell ⟨w.heap.size, 13, none⟩ (.bool false)).cell? ⟨w.heap.size, 10, none⟩ = some (.int .i64 0) := by rw [Lib.cell_of_heap hW]; rfl
  have e11 : ((((((((((((((w6.setCell ⟨w.heap.size, 0, none⟩ (.int .i64 x1)).setCell ⟨w.heap.size, 1, none⟩ (.int .i64 x2)).setCell ⟨w.heap.size, 2, none⟩ (.int .i64 x3)).setCell ⟨w.heap.size, 3, none⟩ (.int .i64 x4)).setCell ⟨w.heap.size, 4, none⟩ (.int .i64 x5)).setCell ⟨w.heap.size, 5, none⟩ (.int .i64 0)).setCell ⟨w.heap.size, 6, none⟩ (.int .i64 0)).setCell ⟨w.heap.size, 7, none⟩ (.slice none 0 0)).setCell ⟨w.heap.size, 8, none⟩ (.slice none 0 0)).setCell ⟨w.heap.size, 9, none⟩ (.int .i64 0)).setCell ⟨w.heap.size, 10, none⟩ (.int .i64 0)).setCell ⟨w.heap.size, 11, none⟩ (.int .i64 0)).setCell ⟨w.heap.size, 12, none⟩ (.int .i64 0)).setCell ⟨w.heap.size, 13, none⟩ (.bool false)).cell? ⟨w.heap.size, 11, none⟩ = some (.int .i64 0) := by rw [Lib.cell_of_heap hW]; rfl
  have e12 : ((((((((((((((w6.setCell ⟨w.heap.size, 0, none⟩ (.int .i64 x1)).setCell ⟨w.heap.size, 1, none⟩ (.int .i64 x2)).setCell ⟨w.heap.size, 2, none⟩ (.int .i64 x3)).setCell ⟨w.heap.size, 3, none⟩ (.int .i64 x4)).setCell ⟨w.heap.size, 4, none⟩ (.int .i64 x5)).setCell ⟨w.heap.size, 5, none⟩ (.int .i64 0)).setCell ⟨w.heap.size, 6, none⟩ (.int .i64 0)).setCell ⟨w.heap.size, 7, none⟩ (.slice none 0 0)).setCell ⟨w.heap.size, 8, none⟩ (.slice none 0 0)).setCell ⟨w.heap.size, 9, none⟩ (.int .i64 0)).setCell ⟨w.heap.size, 10, none⟩ (.int .i64 0)).setCell ⟨w.heap.size, 11, none⟩ (.int .i64 0)).setCell ⟨w.heap.size, 12, none⟩ (.int .i64 0)).setCell ⟨w.heap.size, 13, none⟩ (.bool false)).cell? ⟨w.heap.size, 12, none⟩ = some (.int .i64 0) := by rw [Lib.cell_of_heap hW]; rfl
  have e13 : ((((((((((((((w6.setCell ⟨w.heap.size, 0, none⟩ (.int .i64 x1)).setCell ⟨w.heap.size, 1, none⟩ (.int .i64 x2)).setCell ⟨w.heap.size, 2, none⟩ (.int .i64 x3)).setCell ⟨w.heap.size, 3, none⟩ (.int .i64 x4)).setCell ⟨w.heap.size, 4, none⟩ (.int .i64 x5)).setCell ⟨w.heap.size, 5, none⟩ (.int .i64 0)).setCell ⟨w.heap.size, 6, none⟩ (.int .i64 0)).setCell ⟨w.heap.size, 7, none⟩ (.slice none 0 0)).setCell ⟨w.heap.size, 8, none⟩ (.slice none 0 0)).setCell ⟨w.heap.size, 9, none⟩ (.int .i64 0)).setCell ⟨w.heap.size, 10, none⟩ (.int .i64 0)).setCell ⟨w.heap.size, 11, none⟩ (.int .i64 0)).setCell ⟨w.heap.size, 12, none⟩ (.int .i64 0)).setCell ⟨w.heap.size, 13, none⟩ (.bool false)).cell? ⟨w.heap.size, 13, none⟩ = some (.bool false) := by rw [Lib.cell_of_heap hW]; rfl
  refine bodyPost_ret (v := .agg #[.int .i64 x1, .int .i64 x2, .int .i64 x3, .int .i64 x4, .int .i64 x5, .int .i64 0, .int .i64 0, .slice none 0 0, .slice none 0 0, .int .i64 0, .int .i64 0, .int .i64 0, .int .i64 0, .bool false]) (by simp [results, Try.results86, go_sem, e0, e1, e2, e3, e4, e5, e6, e7, e8, e9, e10, e11, e12, e13]) rfl ?_
  have hm' : (⟨x1, x2, x3, x4, x5, 0, 0, [], [], 0, 0, 0, 0, false⟩ : Msg) = (parseM t s).1 := by
    simp [parseM, HX1.out, HX2.out, HX3.out, HX4.out, HX5.out, k1, k2]
  have hs' : (parseM t s).2 = s5 := by
    simp [parseM, HX1.out, HS5.out, k1, k2]
  refine ⟨_, .slice none 0 0, .slice none 0 0, w6.heap.size, hm', rfl, by omega, (own_set (own_set (own_set (own_set (own_set (own_set (own_set (own_set (own_set (own_set (own_set (own_set (own_set (own_set (World.ownsRow_nil _ _ _ _) _ _ _ (by omega)) _ _ _ (by omega)) _ _ _ (by omega)) _ _ _ (by omega)) _ _ _ (by omega)) _ _ _ (by omega)) _ _ _ (by omega)) _ _ _ (by omega)) _ _ _ (by omega)) _ _ _ (by omega)) _ _ _ (by omega)) _ _ _ (by omega)) _ _ _ (by omega)) _ _ _ (by omega)), (own_set (own_set (own_set (own_set (own_set (own_set (own_set (own_set (own_set (own_set (own_set (own_set (own_set (own_set (World.ownsRow_nil _ _ _ _) _ _ _ (by omega)) _ _ _ (by omega)) _ _ _ (by omega)) _ _ _ (by omega)) _ _ _ (by omega)) _ _ _ (by omega)) _ _ _ (by omega)) _ _ _ (by omega)) _ _ _ (by omega)) _ _ _ (by omega)) _ _ _ (by omega)) _ _ _ (by omega)) _ _ _ (by omega)) _ _ _ (by omega)), ?_, (only_new (only_new (only_new (only_new (only_new (only_new (only_new (only_new (only_new (only_new (only_new (only_new (only_new (only_new (hOA.trans hO6) (by omega) _ _) (by omega) _ _) (by omega) _ _) (by omega) _ _) (by omega) _ _) (by omega) _ _) (by omega) _ _) (by omega) _ _) (by omega) _ _) (by omega) _ _) (by omega) _ _) (by omega) _ _) (by omega) _ _) (by omega) _ _)⟩
  rw [hs']
  exact ⟨((Below.heap_setCell _ _ _ _ (show rb ≠ w.heap.size by omega)).trans ((Below.heap_setCell _ _ _ _ (show rb ≠ w.heap.size by omega)).trans ((Below.heap_setCell _ _ _ _ (show rb ≠ w.heap.size by omega)).trans ((Below.heap_setCell _ _ _ _ (show rb ≠ w.heap.size by omega)).trans ((Below.heap_setCell _ _ _ _ (show rb ≠ w.heap.size by omega)).trans ((Below.heap_setCell _ _ _ _ (show rb ≠ w.heap.size by omega)).trans ((Below.heap_setCell _ _ _ _ (show rb ≠ w.heap.size by omega)).trans ((Below.heap_setCell _ _ _ _ (show rb ≠ w.heap.size by omega)).trans ((Below.heap_setCell _ _ _ _ (show rb ≠ w.heap.size by omega)).trans ((Below.heap_setCell _ _ _ _ (show rb ≠ w.heap.size by omega)).trans ((Below.heap_setCell _ _ _ _ (show rb ≠ w.heap.size by omega)).trans ((Below.heap_setCell _ _ _ _ (show rb ≠ w.heap.size by omega)).trans ((Below.heap_setCell _ _ _ _ (show rb ≠ w.heap.size by omega)).trans ((Below.heap_setCell _ _ _ _ (show rb ≠ w.heap.size by omega)).trans hr6.1)))))))))))))), hr6.2⟩
end Go.Proofs.Ytlpkkcodmoklaaa
