/- The walk of the reference's Open and Decode: messages without more, and reports. -/
import Derived.Test.YtlpkkcodmoklaaaCrcWalksB
import Derived.Test.YtlpkkcodmoklaaaAInv
import Derived.Test.YtlpkkcodmoklaaaMsgDecF
import Derived.Test.YtlpkkcodmoklaaaMsgEncF
import Derived.Deep.Cut
namespace Go.Proofs.Ytlpkkcodmoklaaa
set_option linter.unusedVariables false
set_option linter.unusedSimpArgs false
section CrcOpenR
open Go.RowKit
attribute [local go_sem] bs_size bs_get bs_append bs_extract bs_toList
theorem rOpen_any (l : List UInt8) (w : World) (hs : l.length ≤ 100000) :
    Calls Try.prog 26 #[.string (bs l)] w fun e w' => e = .returned (.tuple #[.string (openV l).1, .int .i64 (openV l).2]) ∧ Below w.heap.size w w' := by
  by_cases h4 : l.length < 4
  · go_enter Try.func26, Try.ntmps26
    go_wp2_with fail
    go_ret2
    exact ⟨by rw [openV, if_pos h4]; rfl, Below.refl _ _⟩
  · have hfin : openV l = if Crc.sealed (l.take (l.length - 4)) = l then (bs (l.take (l.length - 4)), 0) else (bs [], 6) := by
      unfold openV Crc.body
      rw [if_neg h4]
      by_cases h : Crc.sealed (l.take (l.length - 4)) = l
      · rw [if_pos h, if_pos h.symm]
      · rw [if_neg h, if_neg (fun h' => h h'.symm)]
    have HF := Lib.hid hfin
    clear hfin
    have hlen : (l.take (l.length - 4)).length ≤ 100000 := by simp; omega
    go_enter Try.func26, Try.ntmps26
    go_wp2_with fail
    generalize hbd : l.take (l.length - 4) = t at hlen HF
    refine (refSeal_any t _ hlen).mono ?_
    rintro e w1 ⟨rfl, hb⟩
    by_cases hq : Crc.sealed t = l
    · have hq' : (Crc.sealed t == l) = true := by simp [hq]
      have HQ := Lib.hid hq
      clear hq
      go_wp2_with fail
      go_ret2
      exact ⟨by rw [HF.out, if_pos HQ.out]; rfl, hb⟩
    · have hq' : (Crc.sealed t == l) = false := by simp [hq]
      have HQ := Lib.hid hq
      clear hq
      go_wp2_with fail
      go_ret2
      exact ⟨by rw [HF.out, if_neg HQ.out]; rfl, hb⟩
end CrcOpenR
section MInv
open Go.RowKit
/-- The cells of a message that is being read: its numbers, and what its two rows are. -/
def MB (x : Int × Int × Int × Int × Int × Int × Int) (v v2 : Value) : Array Value := #[.int .i64 x.1, .int .i64 x.2.1, .int .i64 x.2.2.1, .int .i64 x.2.2.2.1, .int .i64 x.2.2.2.2.1, .int .i64 x.2.2.2.2.2.1, .int .i64 x.2.2.2.2.2.2, v, v2, .int .i64 0, .int .i64 0, .int .i64 0, .int .i64 0, .bool false]
/-- The message that is being read lies in block ab, the reader in rb. -/
structure MInv (w0 : World) (rb ab : Nat) (x : Int × Int × Int × Int × Int × Int × Int) (v : Value) (acc : List Seg) (v2 : Value) (acc2 : List Lnk) (w : World) : Prop where
  box : w.heap[ab]? = some (.cells (MB x v v2) 69 (0, 0))
  own : w.ownsRow (ab + 1) 100 4 v acc.length (acc.flatMap Seg.cells)
  own2 : w.ownsRow (ab + 1) 77 2 v2 acc2.length (acc2.flatMap Lnk.cells)
  only : Only rb w0 w
section
variable {w0 w w' : World} {rb ab : Nat} {x : Int × Int × Int × Int × Int × Int × Int} {v : Value} {acc : List Seg} {v2 : Value} {acc2 : List Lnk}
theorem MInv.lt (h : MInv w0 rb ab x v acc v2 acc2 w) : ab < w.heap.size := heap_lt h.box
theorem MInv.step (h : MInv w0 rb ab x v acc v2 acc2 w) (ho : Only rb w w') (hb : rb < ab) : MInv w0 rb ab x v acc v2 acc2 w' :=
  ⟨(ho.block ab h.lt (by omega)).trans h.box, own_only h.own ho (by omega), own_only h.own2 ho (by omega), h.only.trans ho⟩
theorem MInv.drew (h : MInv w0 rb ab x v acc v2 acc2 w) : MInv w0 rb ab x v acc v2 acc2 w.drew := ⟨h.box, h.own, h.own2, ⟨h.only.os, h.only.tape, h.only.output, h.only.size, h.only.block⟩⟩
theorem MInv.alloc (h : MInv w0 rb ab x v acc v2 acc2 w) (hb : rb < ab) (o : Obj) : MInv w0 rb ab x v acc v2 acc2 (w.alloc o) := h.step (Only.of_below ((Below.refl _ _).alloc (Nat.le_refl _) o)) hb
theorem MInv.cells (h : MInv w0 rb ab x v acc v2 acc2 w) : w.cell? ⟨ab, 7, none⟩ = some v ∧ w.cell? ⟨ab, 8, none⟩ = some v2 ∧ w.frozen? ⟨ab, 7, none⟩ = false ∧ w.frozen? ⟨ab, 8, none⟩ = false :=
  ⟨by rw [Lib.cell_of_heap h.box]; rfl, by rw [Lib.cell_of_heap h.box]; rfl, Lib.frozen_of_heap h.box 7, Lib.frozen_of_heap h.box 8⟩
theorem MInv.put {s : Seg} {A : Option Addr} {m c : Nat} (h : MInv w0 rb ab x v acc v2 acc2 w) (hab : w0.heap.size ≤ ab) (hown : w'.ownsRow (ab + 1) 100 4 (.slice A m c) (acc.length + 1) (acc.flatMap Seg.cells ++ Seg.cells s)) (hg : w.grownBy w' v.ownBlock) :
    MInv w0 rb ab x (.slice A m c) (acc ++ [s]) v2 acc2 (w'.setCell ⟨ab, 7, none⟩ (.slice A m c)) := by
  have hb := grown_block h.own hg h.box (by omega)
  have h2 := own_other h.own2 h.own (by decide) hg
  have h3 := only_grown h.only h.own hg (by omega)
  refine ⟨?_, ?_, own_set h2 _ _ _ (by omega), only_new h3 hab _ _⟩
  · rw [heap_set _ _ _ _ _ _ _ hb]; rfl
  · have := own_set hown ab 7 (.slice A m c) (by omega)
    simpa using this
theorem MInv.put2 {s : Lnk} {A : Option Addr} {m c : Nat} (h : MInv w0 rb ab x v acc v2 acc2 w) (hab : w0.heap.size ≤ ab) (hown : w'.ownsRow (ab + 1) 77 2 (.slice A m c) (acc2.length + 1) (acc2.flatMap Lnk.cells ++ Lnk.cells s)) (hg : w.grownBy w' v2.ownBlock) :
    MInv w0 rb ab x v acc (.slice A m c) (acc2 ++ [s]) (w'.setCell ⟨ab, 8, none⟩ (.slice A m c)) := by
  have hb := grown_block h.own2 hg h.box (by omega)
  have h2 := own_other h.own h.own2 (by decide) hg
  have h3 := only_grown h.only h.own2 hg (by omega)
  refine ⟨?_, own_set h2 _ _ _ (by omega), ?_, only_new h3 hab _ _⟩
  · rw [heap_set _ _ _ _ _ _ _ hb]; rfl
  · have := own_set hown ab 8 (.slice A m c) (by omega)
    simpa using this
theorem MInv.facts (h : MInv w0 rb ab x v acc v2 acc2 w) (hg : w.grownBy w' v.ownBlock) : w'.frozen? ⟨ab, 7, none⟩ = false ∧ w'.cell? ⟨ab, 7, none⟩ = some v := by
  have hb := grown_block h.own hg h.box (by omega)
  exact ⟨Lib.frozen_of_heap hb 7, by rw [Lib.cell_of_heap hb]; rfl⟩
theorem MInv.facts2 (h : MInv w0 rb ab x v acc v2 acc2 w) (hg : w.grownBy w' v2.ownBlock) : w'.frozen? ⟨ab, 8, none⟩ = false ∧ w'.cell? ⟨ab, 8, none⟩ = some v2 := by
  have hb := grown_block h.own2 hg h.box (by omega)
  exact ⟨Lib.frozen_of_heap hb 8, by rw [Lib.cell_of_heap hb]; rfl⟩
end
theorem RdrR.put {w0 w w' : World} {rb ab : Nat} {x : Int × Int × Int × Int × Int × Int × Int} {v : Value} {acc : List Seg} {v2 : Value} {acc2 : List Lnk} {t : List UInt8} {s : Int} (hr : RdrR rb t s w) (hI : MInv w0 rb ab x v acc v2 acc2 w) (hg : w.grownBy w' v.ownBlock) (hb : rb < ab) (j : Nat) (u : Value) : RdrR rb t s (w'.setCell ⟨ab, j, none⟩ u) :=
  ⟨(Below.heap_setCell _ _ _ _ (show rb ≠ ab by omega)).trans (grown_block hI.own hg hr.1 (by omega)), hr.2⟩
theorem RdrR.put2 {w0 w w' : World} {rb ab : Nat} {x : Int × Int × Int × Int × Int × Int × Int} {v : Value} {acc : List Seg} {v2 : Value} {acc2 : List Lnk} {t : List UInt8} {s : Int} (hr : RdrR rb t s w) (hI : MInv w0 rb ab x v acc v2 acc2 w) (hg : w.grownBy w' v2.ownBlock) (hb : rb < ab) (j : Nat) (u : Value) : RdrR rb t s (w'.setCell ⟨ab, j, none⟩ u) :=
  ⟨(Below.heap_setCell _ _ _ _ (show rb ≠ ab by omega)).trans (grown_block hI.own2 hg hr.1 (by omega)), hr.2⟩
theorem RdrR.drew {rb : Nat} {t : List UInt8} {s : Int} {w : World} (h : RdrR rb t s w) : RdrR rb t s w.drew := h
theorem RdrR.alloc {rb : Nat} {t : List UInt8} {s : Int} {w : World} (h : RdrR rb t s w) (o : Obj) : RdrR rb t s (w.alloc o) := ⟨(Below.heap_alloc w o rb (heap_lt h.1)).trans h.1, h.2⟩
end MInv
section MsgDecG
open Go.RowKit
attribute [local go_sem] bs_size bs_get bs_append bs_extract bs_toList
/-- The authority that the reference reads. -/
def looseA (t : List UInt8) (s : Int) : (Int × Int × List Seg × List Lnk) × Int :=
  let r1 := refI t s
  let r2 := refI t r1.2
  let c := refC t r2.2
  let p := segN (refI t) c.1 c.2 []
  let d := refC t p.2
  let l := lnkN (refI t) d.1 d.2 []
  ((r1.1, r2.1, p.1, l.1), l.2)
/-- The report that the reference reads. -/
def looseR (t : List UInt8) (s : Int) : Int × Int × Int × Int × Bool :=
  let r1 := refI t s
  let r2 := refI t r1.2
  let r3 := refI t r2.2
  let r4 := refI t r3.2
  (r1.1, r2.1, r3.1, r4.1, decide (r4.2 < t.length) && decide ((t.getD r4.2.toNat 0).toNat = 1))
/-- The message that the reference reads. -/
def looseM (t : List UInt8) : Msg :=
  let r1 := refI t 0
  let r2 := refI t r1.2
  let r3 := refI t r2.2
  let r4 := refI t r3.2
  let r5 := refI t r4.2
  let y := if r1.1 == 1 then looseR t r5.2 else (0, 0, 0, 0, false)
  let x := if carB r1.1 then (looseA t r5.2).1 else (0, 0, [], [])
  ⟨r1.1, r2.1, r3.1, r4.1, r5.1, x.1, x.2.1, x.2.2.1, x.2.2.2, y.1, y.2.1, y.2.2.1, y.2.2.2.1, y.2.2.2.2⟩
def decR (s : List UInt8) : Msg × Int :=
  if (openV s).2 ≠ 0 then (Msg.zero, (openV s).2)
  else if encM (looseM (Crc.body s)) ≠ s then (Msg.zero, 6)
  else (looseM (Crc.body s), 0)
theorem refC_le (t : List UInt8) (s : Int) : (refC t s).1 ≤ 200 := by
  unfold refC
  split
  · rename_i hc
    have := (Wire.takeC_bd hc).2.2.2
    omega
  · omega
theorem looseA_ok (t : List UInt8) (s : Int) : I64n (looseA t s).1.1 ∧ I64n (looseA t s).1.2.1 ∧ (looseA t s).1.2.2.1.length ≤ 200 ∧ (looseA t s).1.2.2.2.length ≤ 200 ∧ (∀ x ∈ (looseA t s).1.2.2.1, Seg.ok x) ∧ (∀ x ∈ (looseA t s).1.2.2.2, Lnk.ok x) := by
  refine ⟨refI_ok _ _, refI_ok _ _, ?_, ?_, segN_ok _ (refI_ok t) _ _ _ (by simp), lnkN_ok _ (refI_ok t) _ _ _ (by simp)⟩
  · show (segN (refI t) _ _ []).1.length ≤ 200
    rw [segN_len]
    have := refC_le t (refI t (refI t s).2).2
    simp
    omega
  · show (lnkN (refI t) _ _ []).1.length ≤ 200
    rw [lnkN_len]
    have := refC_le t (segN (refI t) (refC t (refI t (refI t s).2).2).1 (refC t (refI t (refI t s).2).2).2 []).2
    simp
    omega
theorem looseR_ok (t : List UInt8) (s : Int) : I64n (looseR t s).1 ∧ I64n (looseR t s).2.1 ∧ I64n (looseR t s).2.2.1 ∧ I64n (looseR t s).2.2.2.1 :=
  ⟨refI_ok _ _, refI_ok _ _, refI_ok _ _, refI_ok _ _⟩
theorem looseM_ok (t : List UInt8) : (looseM t).Ok ∧ (∀ x ∈ (looseM t).prof, Seg.ok x) ∧ (∀ x ∈ (looseM t).links, Lnk.ok x) := by
  have m1 : 200 ≤ maxLen := by decide
  have hA := looseA_ok t (refI t (refI t (refI t (refI t (refI t 0).2).2).2).2).2
  have hR := looseR_ok t (refI t (refI t (refI t (refI t (refI t 0).2).2).2).2).2
  unfold looseM
  simp only []
  cases h2 : carB (refI t 0).1 <;> cases h1 : (refI t 0).1 == 1 <;> simp only [Bool.false_eq_true, if_true, if_false] <;>
    refine ⟨⟨refI_ok _ _, refI_ok _ _, refI_ok _ _, refI_ok _ _, refI_ok _ _, ?_, ?_, ?_, ?_, ?_, ?_, ?_, ?_⟩, ?_, ?_⟩
  all_goals first
    | with_reducible exact i64n_0
    | with_reducible exact refI_ok _ _
    | with_reducible exact hA.1
    | with_reducible exact hA.2.1
    | with_reducible exact Nat.le_trans hA.2.2.1 m1
    | with_reducible exact Nat.le_trans hA.2.2.2.1 m1
    | with_reducible exact hA.2.2.2.2.1
    | with_reducible exact hA.2.2.2.2.2
    | with_reducible exact hR.1
    | with_reducible exact hR.2.1
    | with_reducible exact hR.2.2.1
    | with_reducible exact hR.2.2.2
    | simp
set_option maxRecDepth 100000 in
set_option maxHeartbeats 8000000 in
theorem rdecode_shut (l : List UInt8) (w : World) (hs : l.length ≤ 100000) (ho : ((openV l).2 != 0) = true) :
    Calls Try.prog 66 #[.string (bs l)] w fun e w' => DecOut w (decR l) e w' := by

  have hd : decR l = (Msg.zero, (openV l).2) := by
    have : (openV l).2 ≠ 0 := by simpa using ho
    unfold decR
    rw [if_pos this]
  have HD := Lib.hid hd
  clear hd
  have hrA : (w.alloc (.cells #[.int .i64 0, .int .i64 0, .int .i64 0, .int .i64 0, .int .i64 0, .int .i64 0, .int .i64 0, .slice none 0 0, .slice none 0 0, .int .i64 0, .int .i64 0, .int .i64 0, .int .i64 0, .bool false] 69)).heap[w.heap.size]? = some (.cells #[.int .i64 0, .int .i64 0, .int .i64 0, .int .i64 0, .int .i64 0, .int .i64 0, .int .i64 0, .slice none 0 0, .slice none 0 0, .int .i64 0, .int .i64 0, .int .i64 0, .int .i64 0, .bool false] 69 (0, 0)) := heap_alloc_new _ _
  have hBA : Below w.heap.size w (w.alloc (.cells #[.int .i64 0, .int .i64 0, .int .i64 0, .int .i64 0, .int .i64 0, .int .i64 0, .int .i64 0, .slice none 0 0, .slice none 0 0, .int .i64 0, .int .i64 0, .int .i64 0, .int .i64 0, .bool false] 69)) := (Below.refl _ _).alloc (Nat.le_refl _) _
  have hzA : (w.alloc (.cells #[.int .i64 0, .int .i64 0, .int .i64 0, .int .i64 0, .int .i64 0, .int .i64 0, .int .i64 0, .slice none 0 0, .slice none 0 0, .int .i64 0, .int .i64 0, .int .i64 0, .int .i64 0, .bool false] 69)).heap.size = w.heap.size + 1 := World.size_alloc _ _
  go_enter Try.func66, Try.ntmps66
  go_wp2_with fail
  refine (rOpen_any l _ hs).mono ?_
  rintro e w1 ⟨rfl, hb1⟩
  have hr1 := (hb1.block w.heap.size (by omega)).trans hrA
  have hz1 := hb1.size
  have hB1 := bthru (w := w) hb1 hBA
  generalize hwA : (w.alloc (.cells #[.int .i64 0, .int .i64 0, .int .i64 0, .int .i64 0, .int .i64 0, .int .i64 0, .int .i64 0, .slice none 0 0, .slice none 0 0, .int .i64 0, .int .i64 0, .int .i64 0, .int .i64 0, .bool false] 69)) = wA at *
  clear hrA hBA hb1 hwA
  have d0 := Lib.cell_of_heap hr1 0
  have df0 := Lib.frozen_of_heap hr1 0
  have d1 := Lib.cell_of_heap hr1 1
  have df1 := Lib.frozen_of_heap hr1 1
  have d2 := Lib.cell_of_heap hr1 2
  have df2 := Lib.frozen_of_heap hr1 2
  have d3 := Lib.cell_of_heap hr1 3
  have df3 := Lib.frozen_of_heap hr1 3
  have d4 := Lib.cell_of_heap hr1 4
  have df4 := Lib.frozen_of_heap hr1 4
  have d5 := Lib.cell_of_heap hr1 5
  have df5 := Lib.frozen_of_heap hr1 5
  have d6 := Lib.cell_of_heap hr1 6
  have df6 := Lib.frozen_of_heap hr1 6
  have d7 := Lib.cell_of_heap hr1 7
  have df7 := Lib.frozen_of_heap hr1 7
  have d8 := Lib.cell_of_heap hr1 8
  have df8 := Lib.frozen_of_heap hr1 8
  have d9 := Lib.cell_of_heap hr1 9
  have df9 := Lib.frozen_of_heap hr1 9
  have d10 := Lib.cell_of_heap hr1 10
  have df10 := Lib.frozen_of_heap hr1 10
  have d11 := Lib.cell_of_heap hr1 11
  have df11 := Lib.frozen_of_heap hr1 11
  have d12 := Lib.cell_of_heap hr1 12
  have df12 := Lib.frozen_of_heap hr1 12
  have d13 := Lib.cell_of_heap hr1 13
  have df13 := Lib.frozen_of_heap hr1 13
  simp only [List.getElem?_toArray, List.getElem?_cons_succ, List.getElem?_cons_zero] at d0 d1 d2 d3 d4 d5 d6 d7 d8 d9 d10 d11 d12 d13
  go_wp2_with fail
  have hW : ((((((((((((((w1.setCell ⟨w.heap.size, 0, none⟩ (.int .i64 0)).setCell ⟨w.heap.size, 1, none⟩ (.int .i64 0)).setCell ⟨w.heap.size, 2, none⟩ (.int .i64 0)).setCell ⟨w.heap.size, 3, none⟩ (.int .i64 0)).setCell ⟨w.heap.size, 4, none⟩ (.int .i64 0)).setCell ⟨w.heap.size, 5, none⟩ (.int .i64 0)).setCell ⟨w.heap.size, 6, none⟩ (.int .i64 0)).setCell ⟨w.heap.size, 7, none⟩ (.slice none 0 0)).setCell ⟨w.heap.size, 8, none⟩ (.slice none 0 0)).setCell ⟨w.heap.size, 9, none⟩ (.int .i64 0)).setCell ⟨w.heap.size, 10, none⟩ (.int .i64 0)).setCell ⟨w.heap.size, 11, none⟩ (.int .i64 0)).setCell ⟨w.heap.size, 12, none⟩ (.int .i64 0)).setCell ⟨w.heap.size, 13, none⟩ (.bool false)).heap[w.heap.size]? = some (.cells #[.int .i64 0, .int .i64 0, .int .i64 0, .int .i64 0, .int .i64 0, .int .i64 0, .int .i64 0, .slice none 0 0, .slice none 0 0, .int .i64 0, .int .i64 0, .int .i64 0, .int .i64 0, .bool false] 69 (0, 0)) := by
    have := (heap_set _ _ 13 (.bool false) _ _ _ (heap_set _ _ 12 (.int .i64 0) _ _ _ (heap_set _ _ 11 (.int .i64 0) _ _ _ (heap_set _ _ 10 (.int .i64 0) _ _ _ (heap_set _ _ 9 (.int .i64 0) _ _ _ (heap_set _ _ 8 (.slice none 0 0) _ _ _ (heap_set _ _ 7 (.slice none 0 0) _ _ _ (heap_set _ _ 6 (.int .i64 0) _ _ _ (heap_set _ _ 5 (.int .i64 0) _ _ _ (heap_set _ _ 4 (.int .i64 0) _ _ _ (heap_set _ _ 3 (.int .i64 0) _ _ _ (heap_set _ _ 2 (.int .i64 0) _ _ _ (heap_set _ _ 1 (.int .i64 0) _ _ _ (heap_set _ _ 0 (.int .i64 0) _ _ _ hr1))))))))))))))
    simpa using this
  have e0 : ((((((((((((((w1.setCell ⟨w.heap.size, 0, none⟩ (.int .i64 0)).setCell ⟨w.heap.size, 1, none⟩ (.int .i64 0)).setCell ⟨w.heap.size, 2, none⟩ (.int .i64 0)).setCell ⟨w.heap.size, 3, none⟩ (.int .i64 0)).setCell ⟨w.heap.size, 4, none⟩ (.int .i64 0)).setCell ⟨w.heap.size, 5, none⟩ (.int .i64 0)).setCell ⟨w.heap.size, 6, none⟩ (.int .i64 0)).setCell ⟨w.heap.size, 7, none⟩ (.slice none 0 0)).setCell ⟨w.heap.size, 8, none⟩ (.slice none 0 0)).setCell ⟨w.heap.size, 9, none⟩ (.int .i64 0)).setCell ⟨w.heap.size, 10, none⟩ (.int .i64 0)).setCell ⟨w.heap.size, 11, none⟩ (.int .i64 0)).setCell ⟨w.heap.size, 12, none⟩ (.int .i64 0)).setCell ⟨w.heap.size, 13, none⟩ (.bool false)).cell? ⟨w.heap.size, 0, none⟩ = some (.int .i64 0) := by rw [Lib.cell_of_heap hW]; rfl
  have e1 : ((((((((((((((w1.setCell ⟨w.heap.size, 0, none⟩ (.int .i64 0)).setCell ⟨w.heap.size, 1, none⟩ (.int .i64 0)).setCell ⟨w.heap.size, 2, none⟩ (.int .i64 0)).setCell ⟨w.heap.size, 3, none⟩ (.int .i64 0)).setCell ⟨w.heap.size, 4, none⟩ (.int .i64 0)).setCell ⟨w.heap.size, 5, none⟩ (.int .i64 0)).setCell ⟨w.heap.size, 6, none⟩ (.int .i64 0)).setCell ⟨w.heap.size, 7, none⟩ (.slice none 0 0)).setCell ⟨w.heap.size, 8, none⟩ (.slice none 0 0)).setCell ⟨w.heap.size, 9, none⟩ (.int .i64 0)).setCell ⟨w.heap.size, 10, none⟩ (.int .i64 0)).setCell ⟨w.heap.size, 11, none⟩ (.int .i64 0)).setCell ⟨w.heap.size, 12, none⟩ (.int .i64 0)).setCell ⟨w.heap.size, 13, none⟩ (.bool false)).cell? ⟨w.heap.size, 1, none⟩ = some (.int .i64 0) := by rw [Lib.cell_of_heap hW]; rfl
  have e2 : ((((((((((((((w1.setCell ⟨w.heap.size, 0, none⟩ (.int .i64 0)).setCell ⟨w.heap.size, 1, none⟩ (.int .i64 0)).setCell ⟨w.heap.size, 2, none⟩ (.int .i64 0)).setCell ⟨w.heap.size, 3, none⟩ (.int .i64 0)).setCell ⟨w.heap.size, 4, none⟩ (.int .i64 0)).setCell ⟨w.heap.size, 5, none⟩ (.int .i64 0)).setCell ⟨w.heap.size, 6, none⟩ (.int .i64 0)).setCell ⟨w.heap.size, 7, none⟩ (.slice none 0 0)).setCell ⟨w.heap.size, 8, none⟩ (.slice none 0 0)).setCell ⟨w.heap.size, 9, none⟩ (.int .i64 0)).setCell ⟨w.heap.size, 10, none⟩ (.int .i64 0)).setCell ⟨w.heap.size, 11, none⟩ (.int .i64 0)).setCell ⟨w.heap.size, 12, none⟩ (.int .i64 0)).setCell ⟨w.heap.size, 13, none⟩ (.bool false)).cell? ⟨w.heap.size, 2, none⟩ = some (.int .i64 0) := by rw [Lib.cell_of_heap hW]; rfl
  have e3 : ((((((((((((((w1.setCell ⟨w.heap.size, 0, none⟩ (.int .i64 0)).setCell ⟨w.heap.size, 1, none⟩ (.int .i64 0)).setCell ⟨w.heap.size, 2, none⟩ (.int .i64 0)).setCell ⟨w.heap.size, 3, none⟩ (.int .i64 0)).setCell ⟨w.heap.size, 4, none⟩ (.int .i64 0)).setCell ⟨w.heap.size, 5, none⟩ (.int .i64 0)).setCell ⟨w.heap.size, 6, none⟩ (.int .i64 0)).setCell ⟨w.heap.size, 7, none⟩ (.slice none 0 0)).setCell ⟨w.heap.size, 8, none⟩ (.slice none 0 0)).setCell ⟨w.heap.size, 9, none⟩ (.int .i64 0)).setCell ⟨w.heap.size, 10, none⟩ (.int .i64 0)).setCell ⟨w.heap.size, 11, none⟩ (.int .i64 0)).setCell ⟨w.heap.size, 12, none⟩ (.int .i64 0)).setCell ⟨w.heap.size, 13, none⟩ (.bool false)).cell? ⟨w.heap.size, 3, none⟩ = some (.int .i64 0) := by rw [Lib.cell_of_heap hW]; rfl
  have e4 : ((((((((((((((w1.setCell ⟨w.heap.size, 0, none⟩ (.int .i64 0)).setCell ⟨w.heap.size, 1, none⟩ (.int .i64 0)).setCell ⟨w.heap.size, 2, none⟩ (.int .i64 0)).setCell ⟨w.heap.size, 3, none⟩ (.int .i64 0)).setCell ⟨w.heap.size, 4, none⟩ (.int .i64 0)).setCell ⟨w.heap.size, 5, none⟩ (.int .i64 0)).setCell ⟨w.heap.size, 6, none⟩ (.int .i64 0)).setCell ⟨w.heap.size, 7, none⟩ (.slice none 0 0)).setCell ⟨w.heap.size, 8, none⟩ (.slice none 0 0)).setCell ⟨w.heap.size, 9, none⟩ (.int .i64 0)).setCell ⟨w.heap.size, 10, none⟩ (.int .i64 0)).setCell ⟨w.heap.size, 11, none⟩ (.int .i64 0)).setCell ⟨w.heap.size, 12, none⟩ (.int .i64 0)).setCell ⟨w.heap.size, 13, none⟩ (.bool false)).cell? ⟨w.heap.size, 4, none⟩ = some (.int .i64 0) := by rw [Lib.cell_of_heap hW]; rfl
  have e5 : ((((((((((((((w1.setCell ⟨w.heap.size, 0, none⟩ (.int .i64 0)).setCell ⟨w.heap.size, 1, none⟩ (.int .i64 0)).setCell ⟨w.heap.size, 2, none⟩ (.int .i64 0)).setCell ⟨w.heap.size, 3, none⟩ (.int .i64 0)).setCell ⟨w.heap.size, 4, none⟩ (.int .i64 0)).setCell ⟨w.heap.size, 5, none⟩ (.int .i64 0)).setCell ⟨w.heap.size, 6, none⟩ (.int .i64 0)).setCell ⟨w.heap.size, 7, none⟩ (.slice none 0 0)).setCell ⟨w.heap.size, 8, none⟩ (.slice none 0 0)).setCell ⟨w.heap.size, 9, none⟩ (.int .i64 0)).setCell ⟨w.heap.size, 10, none⟩ (.int .i64 0)).setCell ⟨w.heap.size, 11, none⟩ (.int .i64 0)).setCell ⟨w.heap.size, 12, none⟩ (.int .i64 0)).setCell ⟨w.heap.size, 13, none⟩ (.bool false)).cell? ⟨w.heap.size, 5, none⟩ = some (.int .i64 0) := by rw [Lib.cell_of_heap hW]; rfl
  have e6 : ((((((((((((((w1.setCell ⟨w.heap.size, 0, none⟩ (.int .i64 0)).setCell ⟨w.heap.size, 1, none⟩ (.int .i64 0)).setCell ⟨w.heap.size, 2, none⟩ (.int .i64 0)).setCell ⟨w.heap.size, 3, none⟩ (.int .i64 0)).setCell ⟨w.heap.size, 4, none⟩ (.int .i64 0)).setCell ⟨w.heap.size, 5, none⟩ (.int .i64 0)).setCell ⟨w.heap.size, 6, none⟩ (.int .i64 0)).setCell ⟨w.heap.size, 7, none⟩ (.slice none 0 0)).setCell ⟨w.heap.size, 8, none⟩ (.slice none 0 0)).setCell ⟨w.heap.size, 9, none⟩ (.int .i64 0)).setCell ⟨w.heap.size, 10, none⟩ (.int .i64 0)).setCell ⟨w.heap.size, 11, none⟩ (.int .i64 0)).setCell ⟨w.heap.size, 12, none⟩ (.int .i64 0)).setCell ⟨w.heap.size, 13, none⟩ (.bool false)).cell? ⟨w.heap.size, 6, none⟩ = some (.int .i64 0) := by rw [Lib.cell_of_heap hW]; rfl
  have e7 : ((((((((((((((w1.setCell ⟨w.heap.size, 0, none⟩ (.int .i64 0)).setCell ⟨w.heap.size, 1, none⟩ (.int .i64 0)).setCell ⟨w.heap.size, 2, none⟩ (.int .i64 0)).setCell ⟨w.heap.size, 3, none⟩ (.int .i64 0)).setCell ⟨w.heap.size, 4, none⟩ (.int .i64 0)).setCell ⟨w.heap.size, 5, none⟩ (.int .i64 0)).setCell ⟨w.heap.size, 6, none⟩ (.int .i64 0)).setCell ⟨w.heap.size, 7, none⟩ (.slice none 0 0)).setCell ⟨w.heap.size, 8, none⟩ (.slice none 0 0)).setCell ⟨w.heap.size, 9, none⟩ (.int .i64 0)).setCell ⟨w.heap.size, 10, none⟩ (.int .i64 0)).setCell ⟨w.heap.size, 11, none⟩ (.int .i64 0)).setCell ⟨w.heap.size, 12, none⟩ (.int .i64 0)).setCell ⟨w.heap.size, 13, none⟩ (.bool false)).cell? ⟨w.heap.size, 7, none⟩ = some (.slice none 0 0) := by rw [Lib.cell_of_heap hW]; rfl
  have e8 : ((((((((((((((w1.setCell ⟨w.heap.size, 0, none⟩ (.int .i64 0)).setCell ⟨w.heap.size, 1, none⟩ (.int .i64 0)).setCell ⟨w.heap.size, 2, none⟩ (.int .i64 0)).setCell ⟨w.heap.size, 3, none⟩ (.int .i64 0)).setCell ⟨w.heap.size, 4, none⟩ (.int .i64 0)).setCell ⟨w.heap.size, 5, none⟩ (.int .i64 0)).setCell ⟨w.heap.size, 6, none⟩ (.int .i64 0)).setCell ⟨w.heap.size, 7, none⟩ (.slice none 0 0)).setCell ⟨w.heap.size, 8, none⟩ (.slice none 0 0)).setCell ⟨w.heap.size, 9, none⟩ (.int .i64 0)).setCell ⟨w.heap.size, 10, none⟩ (.int .i64 0)).setCell ⟨w.heap.size, 11, none⟩ (.int .i64 0)).setCell ⟨w.heap.size, 12, none⟩ (.int .i64 0)).setCell ⟨w.heap.size, 13, none⟩ (.bool false)).cell? ⟨w.heap.size, 8, none⟩ = some (.slice none 0 0) := by rw [Lib.cell_of_heap hW]; rfl
  have e9 : ((((((((((((((w1.setCell ⟨w.heap.size, 0, none⟩ (.int .i64 0)).setCell ⟨w.heap.size, 1, none⟩ (.int .i64 0)).setCell ⟨w.heap.size, 2, none⟩ (.int .i64 0)).setCell ⟨w.heap.size, 3, none⟩ (.int .i64 0)).setCell ⟨w.heap.size, 4, none⟩ (.int .i64 0)).setCell ⟨w.heap.size, 5, none⟩ (.int .i64 0)).setCell ⟨w.heap.size, 6, none⟩ (.int .i64 0)).setCell ⟨w.heap.size, 7, none⟩ (.slice none 0 0)).setCell ⟨w.heap.size, 8, none⟩ (.slice none 0 0)).setCell ⟨w.heap.size, 9, none⟩ (.int .i64 0)).setCell ⟨w.heap.size, 10, none⟩ (.int .i64 0)).setCell ⟨w.heap.size, 11, none⟩ (.int .i64 0)).setCell ⟨w.heap.size, 12, none⟩ (.int .i64 0)).setCell ⟨w.heap.size, 13, none⟩ (.bool false)).cell? ⟨w.heap.size, 9, none⟩ = some (.int .i64 0) := by rw [Lib.cell_of_heap hW]; rfl
  have e10 : ((((((((((((((w1.setCell ⟨w.heap.size, 0, none⟩ (.int .i64 0)).setCell ⟨w.heap.size, 1, none⟩ (.int .i64 0)).setCell ⟨w.heap.size, 2, none⟩ (.int .i64 0)).setCell ⟨w.heap.size, 3, none⟩ (.int .i64 0)).setCell ⟨w.heap.size, 4, none⟩ (.int .i64 0)).setCell ⟨w.heap.size, 5, none⟩ (.int .i64 0)).setCell ⟨w.heap.size, 6, none⟩ (.int .i64 0)).setCell ⟨w.heap.size, 7, none⟩ (.slice none 0 0)).setCell ⟨w.heap.size, 8, none⟩ (.slice none 0 0)).setCell ⟨w.heap.size, 9, none⟩ (.int .i64 0)).setCell ⟨w.heap.size, 10, none⟩ (.int .i64 0)).setCell ⟨w.heap.size, 11, none⟩ (.int .i64 0)).setCell ⟨w.heap.size, 12, none⟩ (.int .i64 0)).setCell ⟨w.heap.size, 13, none⟩ (.bool false)).cell? ⟨w.heap.size, 10, none⟩ = some (.int .i64 0) := by rw [Lib.cell_of_heap hW]; rfl
  have e11 : ((((((((((((((w1.setCell ⟨w.heap.size, 0, none⟩ (.int .i64 0)).setCell ⟨w.heap.size, 1, none⟩ (.int .i64 0)).setCell ⟨w.heap.size, 2, none⟩ (.int .i64 0)).setCell ⟨w.heap.size, 3, none⟩ (.int .i64 0)).setCell ⟨w.heap.size, 4, none⟩ (.int .i64 0)).setCell ⟨w.heap.size, 5, none⟩ (.int .i64 0)).setCell ⟨w.heap.size, 6, none⟩ (.int .i64 0)).setCell ⟨w.heap.size, 7, none⟩ (.slice none 0 0)).setCell ⟨w.heap.size, 8, none⟩ (.slice none 0 0)).setCell ⟨w.heap.size, 9, none⟩ (.int .i64 0)).setCell ⟨w.heap.size, 10, none⟩ (.int .i64 0)).setCell ⟨w.heap.size, 11, none⟩ (.int .i64 0)).setCell ⟨w.heap.size, 12, none⟩ (.int .i64 0)).setCell ⟨w.heap.size, 13, none⟩ (.bool false)).cell? ⟨w.heap.size, 11, none⟩ = some (.int .i64 0) := by rw [Lib.cell_of_heap hW]; rfl
  have e12 : ((((((((((((((w1.setCell ⟨w.heap.size, 0, none⟩ (.int .i64 0)).setCell ⟨w.heap.size, 1, none⟩ (.int .i64 0)).setCell ⟨w.heap.size, 2, none⟩ (.int .i64 0)).setCell ⟨w.heap.size, 3, none⟩ (.int .i64 0)).setCell ⟨w.heap.size, 4, none⟩ (.int .i64 0)).setCell ⟨w.heap.size, 5, none⟩ (.int .i64 0)).setCell ⟨w.heap.size, 6, none⟩ (.int .i64 0)).setCell ⟨w.heap.size, 7, none⟩ (.slice none 0 0)).setCell ⟨w.heap.size, 8, none⟩ (.slice none 0 0)).setCell ⟨w.heap.size, 9, none⟩ (.int .i64 0)).setCell ⟨w.heap.size, 10, none⟩ (.int .i64 0)).setCell ⟨w.heap.size, 11, none⟩ (.int .i64 0)).setCell ⟨w.heap.size, 12, none⟩ (.int .i64 0)).setCell ⟨w.heap.size, 13, none⟩ (.bool false)).cell? ⟨w.heap.size, 12, none⟩ = some (.int .i64 0) := by rw [Lib.cell_of_heap hW]; rfl
  have e13 : ((((((((((((((w1.setCell ⟨w.heap.size, 0, none⟩ (.int .i64 0)).setCell ⟨w.heap.size, 1, none⟩ (.int .i64 0)).setCell ⟨w.heap.size, 2, none⟩ (.int .i64 0)).setCell ⟨w.heap.size, 3, none⟩ (.int .i64 0)).setCell ⟨w.heap.size, 4, none⟩ (.int .i64 0)).setCell ⟨w.heap.size, 5, none⟩ (.int .i64 0)).setCell ⟨w.heap.size, 6, none⟩ (.int .i64 0)).setCell ⟨w.heap.size, 7, none⟩ (.slice none 0 0)).setCell ⟨w.heap.size, 8, none⟩ (.slice none 0 0)).setCell ⟨w.heap.size, 9, none⟩ (.int .i64 0)).setCell ⟨w.heap.size, 10, none⟩ (.int .i64 0)).setCell ⟨w.heap.size, 11, none⟩ (.int .i64 0)).setCell ⟨w.heap.size, 12, none⟩ (.int .i64 0)).setCell ⟨w.heap.size, 13, none⟩ (.bool false)).cell? ⟨w.heap.size, 13, none⟩ = some (.bool false) := by rw [Lib.cell_of_heap hW]; rfl
  refine bodyPost_ret (v := .tuple #[.agg #[.int .i64 0, .int .i64 0, .int .i64 0, .int .i64 0, .int .i64 0, .int .i64 0, .int .i64 0, .slice none 0 0, .slice none 0 0, .int .i64 0, .int .i64 0, .int .i64 0, .int .i64 0, .bool false], .int .i64 (openV l).2]) (by simp [results, Try.results66, go_sem, e0, e1, e2, e3, e4, e5, e6, e7, e8, e9, e10, e11, e12, e13]) rfl ?_
  rw [HD.out]
  exact decOut_zero rfl ((((((((((((((hB1.setCell (Nat.le_refl _) _).setCell (Nat.le_refl _) _).setCell (Nat.le_refl _) _).setCell (Nat.le_refl _) _).setCell (Nat.le_refl _) _).setCell (Nat.le_refl _) _).setCell (Nat.le_refl _) _).setCell (Nat.le_refl _) _).setCell (Nat.le_refl _) _).setCell (Nat.le_refl _) _).setCell (Nat.le_refl _) _).setCell (Nat.le_refl _) _).setCell (Nat.le_refl _) _).setCell (Nat.le_refl _) _)
/-- What stands ahead of the last statements: the message lies in block mb, the result's box is as it was. -/
structure RInv (w : World) (mb : Nat) (m : Msg) (v v2 : Value) (base : Nat) (wr : World) : Prop where
  box : wr.heap[mb]? = some (.cells #[.int .i64 m.kind, .int .i64 m.fro, .int .i64 m.to, .int .i64 m.seq, .int .i64 m.time, .int .i64 m.aseq, .int .i64 m.aend, v, v2, .int .i64 m.min, .int .i64 m.speed, .int .i64 m.mode, .int .i64 m.acc, .bool m.whole] 69 (0, 0))
  own : wr.ownsRow base 100 4 v m.prof.length (m.prof.flatMap Seg.cells)
  own2 : wr.ownsRow base 77 2 v2 m.links.length (m.links.flatMap Lnk.cells)
  res : wr.heap[w.heap.size]? = some (.cells #[.int .i64 0, .int .i64 0, .int .i64 0, .int .i64 0, .int .i64 0, .int .i64 0, .int .i64 0, .slice none 0 0, .slice none 0 0, .int .i64 0, .int .i64 0, .int .i64 0, .int .i64 0, .bool false] 69 (0, 0))
  low : w.heap.size < base
  lowb : w.heap.size < mb
  below : Below w.heap.size w wr
end MsgDecG
section MsgDecH
open Go.RowKit
attribute [local go_sem] bs_size bs_get bs_append bs_extract bs_toList
set_option maxRecDepth 100000 in
set_option maxHeartbeats 8000000 in
theorem rdecode_none (l : List UInt8) (w : World) (hs : l.length ≤ 100000) (ho : (openV l).2 = 0) (k1 : ((refI (Crc.body l) 0).1 == 1) = false) (k2 : carB (refI (Crc.body l) 0).1 = false) :
    Calls Try.prog 66 #[.string (bs l)] w fun e w' => DecOut w (decR l) e w' := by
  obtain ⟨ho1, ho2⟩ := openV_ok ho
  have HB := Lib.hid ho2
  clear ho2 ho
  have hbl := body_len l
  have hok := looseM_ok (Crc.body l)
  have hdef : decR l = if encM (looseM (Crc.body l)) ≠ l then (Msg.zero, 6) else (looseM (Crc.body l), 0) := by
    unfold decR
    rw [ho1]
    rfl
  have HDEF := Lib.hid hdef
  clear hdef
  have hrA : (w.alloc (.cells #[.int .i64 0, .int .i64 0, .int .i64 0, .int .i64 0, .int .i64 0, .int .i64 0, .int .i64 0, .slice none 0 0, .slice none 0 0, .int .i64 0, .int .i64 0, .int .i64 0, .int .i64 0, .bool false] 69)).heap[w.heap.size]? = some (.cells #[.int .i64 0, .int .i64 0, .int .i64 0, .int .i64 0, .int .i64 0, .int .i64 0, .int .i64 0, .slice none 0 0, .slice none 0 0, .int .i64 0, .int .i64 0, .int .i64 0, .int .i64 0, .bool false] 69 (0, 0)) := heap_alloc_new _ _
  have hBA : Below w.heap.size w (w.alloc (.cells #[.int .i64 0, .int .i64 0, .int .i64 0, .int .i64 0, .int .i64 0, .int .i64 0, .int .i64 0, .slice none 0 0, .slice none 0 0, .int .i64 0, .int .i64 0, .int .i64 0, .int .i64 0, .bool false] 69)) := (Below.refl _ _).alloc (Nat.le_refl _) _
  have hzA : (w.alloc (.cells #[.int .i64 0, .int .i64 0, .int .i64 0, .int .i64 0, .int .i64 0, .int .i64 0, .int .i64 0, .slice none 0 0, .slice none 0 0, .int .i64 0, .int .i64 0, .int .i64 0, .int .i64 0, .bool false] 69)).heap.size = w.heap.size + 1 := World.size_alloc _ _
  go_enter Try.func66, Try.ntmps66
  go_wp2_with fail
  refine (rOpen_any l _ hs).mono ?_
  rintro e w1 ⟨rfl, hb1⟩
  have hr1 := (hb1.block w.heap.size (by omega)).trans hrA
  have hz1 := hb1.size
  have hB1 := bthru (w := w) hb1 hBA
  generalize hwA : (w.alloc (.cells #[.int .i64 0, .int .i64 0, .int .i64 0, .int .i64 0, .int .i64 0, .int .i64 0, .int .i64 0, .slice none 0 0, .slice none 0 0, .int .i64 0, .int .i64 0, .int .i64 0, .int .i64 0, .bool false] 69)) = wA at *
  clear hrA hBA hb1 hwA
  rw [ho1]
  go_wp2_with fail
  generalize hT : Crc.body l = T at *
  have hrd : RdrR w1.heap.size T 0 (w1.alloc (.cells #[.string (bs T), .int .i64 0] 109)) := ⟨heap_alloc_new _ _, by omega, by omega⟩
  have hw2 := (Below.refl w1.heap.size w1).alloc (Nat.le_refl _) (.cells #[.string (bs T), .int .i64 0] 109)
  have hz2 : (w1.alloc (.cells #[.string (bs T), .int .i64 0] 109)).heap.size = w1.heap.size + 1 := World.size_alloc _ _
  generalize hwb : w1.alloc (.cells #[.string (bs T), .int .i64 0] 109) = wb at *
  generalize hrbn : w1.heap.size = rb at *
  refine (rint_any rb T 0 _ hrd (by omega)).mono ?_
  rintro e u1 ⟨rfl, hq1, ho1⟩
  go_wp2_with fail
  refine (rint_any rb T _ _ hq1 (by omega)).mono ?_
  rintro e u2 ⟨rfl, hq2, ho2⟩
  go_wp2_with fail
  refine (rint_any rb T _ _ hq2 (by omega)).mono ?_
  rintro e u3 ⟨rfl, hq3, ho3⟩
  go_wp2_with fail
  refine (rint_any rb T _ _ hq3 (by omega)).mono ?_
  rintro e u4 ⟨rfl, hq4, ho4⟩
  go_wp2_with fail
  refine (rint_any rb T _ _ hq4 (by omega)).mono ?_
  rintro e u5 ⟨rfl, hq5, ho5⟩
  go_upto_region 9 with (fail)
  have hO5 : Only rb wb u5 := (((ho1.trans ho2).trans ho3).trans ho4).trans ho5
  have hz5 := hO5.size
  clear ho1 ho2 ho3 ho4 ho5 hq1 hq2 hq3 hq4 hrd
  generalize hx1 : (refI T 0).1 = x1 at *
  generalize hx2 : (refI T (refI T 0).2).1 = x2 at *
  generalize hx3 : (refI T (refI T (refI T 0).2).2).1 = x3 at *
  generalize hx4 : (refI T (refI T (refI T (refI T 0).2).2).2).1 = x4 at *
  generalize hx5 : (refI T (refI T (refI T (refI T (refI T 0).2).2).2).2).1 = x5 at *
  generalize hs5 : (refI T (refI T (refI T (refI T (refI T 0).2).2).2).2).2 = s5 at *
  have HX1 := Lib.hid hx1
  have HX2 := Lib.hid hx2
  have HX3 := Lib.hid hx3
  have HX4 := Lib.hid hx4
  have HX5 := Lib.hid hx5
  have HS5 := Lib.hid hs5
  clear hx1 hx2 hx3 hx4 hx5 hs5
  have hM : (u5.alloc (.cells #[.int .i64 x1, .int .i64 x2, .int .i64 x3, .int .i64 x4, .int .i64 x5, .int .i64 0, .int .i64 0, .slice none 0 0, .slice none 0 0, .int .i64 0, .int .i64 0, .int .i64 0, .int .i64 0, .bool false] 69)).heap[u5.heap.size]? = some (.cells #[.int .i64 x1, .int .i64 x2, .int .i64 x3, .int .i64 x4, .int .i64 x5, .int .i64 0, .int .i64 0, .slice none 0 0, .slice none 0 0, .int .i64 0, .int .i64 0, .int .i64 0, .int .i64 0, .bool false] 69 (0, 0)) := heap_alloc_new _ _
  have hO6 : Only rb wb (u5.alloc (.cells #[.int .i64 x1, .int .i64 x2, .int .i64 x3, .int .i64 x4, .int .i64 x5, .int .i64 0, .int .i64 0, .slice none 0 0, .slice none 0 0, .int .i64 0, .int .i64 0, .int .i64 0, .int .i64 0, .bool false] 69)) := hO5.trans (Only.of_below ((Below.refl _ _).alloc (Nat.le_refl _) _))
  have hr6 : RdrR rb T s5 (u5.alloc (.cells #[.int .i64 x1, .int .i64 x2, .int .i64 x3, .int .i64 x4, .int .i64 x5, .int .i64 0, .int .i64 0, .slice none 0 0, .slice none 0 0, .int .i64 0, .int .i64 0, .int .i64 0, .int .i64 0, .bool false] 69)) := hq5.alloc _
  have hz6 : (u5.alloc (.cells #[.int .i64 x1, .int .i64 x2, .int .i64 x3, .int .i64 x4, .int .i64 x5, .int .i64 0, .int .i64 0, .slice none 0 0, .slice none 0 0, .int .i64 0, .int .i64 0, .int .i64 0, .int .i64 0, .bool false] 69)).heap.size = u5.heap.size + 1 := World.size_alloc _ _
  generalize hw6 : u5.alloc (.cells #[.int .i64 x1, .int .i64 x2, .int .i64 x3, .int .i64 x4, .int .i64 x5, .int .i64 0, .int .i64 0, .slice none 0 0, .slice none 0 0, .int .i64 0, .int .i64 0, .int .i64 0, .int .i64 0, .bool false] 69) = w6 at *
  generalize hmb : u5.heap.size = mb at *
  clear hq5 hO5 hw6 hmb
  have m0 := Lib.cell_of_heap hM 0
  simp only [List.getElem?_toArray, List.getElem?_cons_zero] at m0
  have k3 : (x1 == 2) = false ∧ (x1 == 3) = false := by simpa [carB] using k2
  obtain ⟨k3, k4⟩ := k3
  have hm : (⟨x1, x2, x3, x4, x5, 0, 0, [], [], 0, 0, 0, 0, false⟩ : Msg) = looseM T := by
    simp [looseM, HX1.out, HX2.out, HX3.out, HX4.out, HX5.out, k1, k2]
  have hBw : Below w.heap.size w w6 := hO6.below (hB1.trans (hw2.mono (by omega))) (by omega) (by omega)
  obtain ⟨v, v2, base, hRI⟩ : ∃ v v2 base, RInv w mb (looseM T) v v2 base w6 := by
    rw [← hm]
    exact ⟨.slice none 0 0, .slice none 0 0, w6.heap.size, hM, World.ownsRow_nil _ _ _ _, World.ownsRow_nil _ _ _ _, (hO6.block _ (by omega) (by omega)).trans ((hw2.block _ (by omega)).trans hr1), by omega, by omega, hBw⟩
  have hkd : (looseM T).kind = x1 := by rw [← hm]
  have k1' : ((looseM T).kind == 1) = false := by rw [hkd]; exact k1
  have k3' : ((looseM T).kind == 2) = false := by rw [hkd]; exact k3
  have k4' : ((looseM T).kind == 3) = false := by rw [hkd]; exact k4
  clear hm hkd
  generalize looseM T = m at *
  clear hM hr1 hB1 hw2 hO6 hr6 hBw m0 k1 k2 k3 k4
  obtain ⟨A, c, rfl, hp7⟩ := rdS_own (n := 4) (cells := Seg.cells) (ok := Seg.ok) (hn := fun _ => rfl) hRI.own hok.2.1
  obtain ⟨A', c', rfl, hl7⟩ := rdS_own (n := 2) (cells := Lnk.cells) (ok := Lnk.ok) (hn := fun _ => rfl) hRI.own2 hok.2.2
  have c0 := Lib.cell_of_heap hRI.box 0
  have c1 := Lib.cell_of_heap hRI.box 1
  have c2 := Lib.cell_of_heap hRI.box 2
  have c3 := Lib.cell_of_heap hRI.box 3
  have c4 := Lib.cell_of_heap hRI.box 4
  have c5 := Lib.cell_of_heap hRI.box 5
  have c6 := Lib.cell_of_heap hRI.box 6
  have c7 := Lib.cell_of_heap hRI.box 7
  have c8 := Lib.cell_of_heap hRI.box 8
  have c9 := Lib.cell_of_heap hRI.box 9
  have c10 := Lib.cell_of_heap hRI.box 10
  have c11 := Lib.cell_of_heap hRI.box 11
  have c12 := Lib.cell_of_heap hRI.box 12
  have c13 := Lib.cell_of_heap hRI.box 13
  simp only [List.getElem?_toArray, List.getElem?_cons_succ, List.getElem?_cons_zero] at c0 c1 c2 c3 c4 c5 c6 c7 c8 c9 c10 c11 c12 c13
  go_wp2_with fail
  refine (rEncode_any m A c A' c' _ hok.1 hp7 hl7).mono ?_
  rintro e w8 ⟨rfl, hb8⟩
  have hlow := hRI.lowb
  have hlow2 := hRI.low
  have hres8 := (hb8.block w.heap.size (Nat.lt_of_lt_of_le (heap_lt hRI.res) (Nat.le_refl _))).trans hRI.res
  have hbox8 := (hb8.block mb (heap_lt hRI.box)).trans hRI.box
  have hB8 := bthru (w := w) hb8 hRI.below
  have n1 := own_only hRI.own (Only.of_below (rb := w.heap.size) hb8) hlow2
  have n2 := own_only hRI.own2 (Only.of_below (rb := w.heap.size) hb8) hlow2
  clear c0 c1 c2 c3 c4 c5 c6 c7 c8 c9 c10 c11 c12 c13
  have d0 := Lib.cell_of_heap hres8 0
  have df0 := Lib.frozen_of_heap hres8 0
  have d1 := Lib.cell_of_heap hres8 1
  have df1 := Lib.frozen_of_heap hres8 1
  have d2 := Lib.cell_of_heap hres8 2
  have df2 := Lib.frozen_of_heap hres8 2
  have d3 := Lib.cell_of_heap hres8 3
  have df3 := Lib.frozen_of_heap hres8 3
  have d4 := Lib.cell_of_heap hres8 4
  have df4 := Lib.frozen_of_heap hres8 4
  have d5 := Lib.cell_of_heap hres8 5
  have df5 := Lib.frozen_of_heap hres8 5
  have d6 := Lib.cell_of_heap hres8 6
  have df6 := Lib.frozen_of_heap hres8 6
  have d7 := Lib.cell_of_heap hres8 7
  have df7 := Lib.frozen_of_heap hres8 7
  have d8 := Lib.cell_of_heap hres8 8
  have df8 := Lib.frozen_of_heap hres8 8
  have d9 := Lib.cell_of_heap hres8 9
  have df9 := Lib.frozen_of_heap hres8 9
  have d10 := Lib.cell_of_heap hres8 10
  have df10 := Lib.frozen_of_heap hres8 10
  have d11 := Lib.cell_of_heap hres8 11
  have df11 := Lib.frozen_of_heap hres8 11
  have d12 := Lib.cell_of_heap hres8 12
  have df12 := Lib.frozen_of_heap hres8 12
  have d13 := Lib.cell_of_heap hres8 13
  have df13 := Lib.frozen_of_heap hres8 13
  simp only [List.getElem?_toArray, List.getElem?_cons_succ, List.getElem?_cons_zero] at d0 d1 d2 d3 d4 d5 d6 d7 d8 d9 d10 d11 d12 d13
  by_cases he : encM m = l
  · have he1 : (encM m == l) = true := by simp [he]
    have he2 : (encM m != l) = false := by simp [he]
    have HE := Lib.hid he
    clear he
    have g0 := Lib.cell_of_heap hbox8 0
    have g1 := Lib.cell_of_heap hbox8 1
    have g2 := Lib.cell_of_heap hbox8 2
    have g3 := Lib.cell_of_heap hbox8 3
    have g4 := Lib.cell_of_heap hbox8 4
    have g5 := Lib.cell_of_heap hbox8 5
    have g6 := Lib.cell_of_heap hbox8 6
    have g7 := Lib.cell_of_heap hbox8 7
    have g8 := Lib.cell_of_heap hbox8 8
    have g9 := Lib.cell_of_heap hbox8 9
    have g10 := Lib.cell_of_heap hbox8 10
    have g11 := Lib.cell_of_heap hbox8 11
    have g12 := Lib.cell_of_heap hbox8 12
    have g13 := Lib.cell_of_heap hbox8 13
    simp only [List.getElem?_toArray, List.getElem?_cons_succ, List.getElem?_cons_zero] at g0 g1 g2 g3 g4 g5 g6 g7 g8 g9 g10 g11 g12 g13
    go_wp2_with fail
    have hW : ((((((((((((((w8.setCell ⟨w.heap.size, 0, none⟩ (.int .i64 m.kind)).setCell ⟨w.heap.size, 1, none⟩ (.int .i64 m.fro)).setCell ⟨w.heap.size, 2, none⟩ (.int .i64 m.to)).setCell ⟨w.heap.size, 3, none⟩ (.int .i64 m.seq)).setCell ⟨w.heap.size, 4, none⟩ (.int .i64 m.time)).setCell ⟨w.heap.size, 5, none⟩ (.int .i64 m.aseq)).setCell ⟨w.heap.size, 6, none⟩ (.int .i64 m.aend)).setCell ⟨w.heap.size, 7, none⟩ (.slice A m.prof.length c)).setCell ⟨w.heap.size, 8, none⟩ (.slice A' m.links.length c')).setCell ⟨w.heap.size, 9, none⟩ (.int .i64 m.min)).setCell ⟨w.heap.size, 10, none⟩ (.int .i64 m.speed)).setCell ⟨w.heap.size, 11, none⟩ (.int .i64 m.mode)).setCell ⟨w.heap.size, 12, none⟩ (.int .i64 m.acc)).setCell ⟨w.heap.size, 13, none⟩ (.bool m.whole)).heap[w.heap.size]? = some (.cells #[.int .i64 m.kind, .int .i64 m.fro, .int .i64 m.to, .int .i64 m.seq, .int .i64 m.time, .int .i64 m.aseq, .int .i64 m.aend, .slice A m.prof.length c, .slice A' m.links.length c', .int .i64 m.min, .int .i64 m.speed, .int .i64 m.mode, .int .i64 m.acc, .bool m.whole] 69 (0, 0)) := by
      have := (heap_set _ _ 13 (.bool m.whole) _ _ _ (heap_set _ _ 12 (.int .i64 m.acc) _ _ _ (heap_set _ _ 11 (.int .i64 m.mode) _ _ _ (heap_set _ _ 10 (.int .i64 m.speed) _ _ _ (heap_set _ _ 9 (.int .i64 m.min) _ _ _ (heap_set _ _ 8 (.slice A' m.links.length c') _ _ _ (heap_set _ _ 7 (.slice A m.prof.length c) _ _ _ (heap_set _ _ 6 (.int .i64 m.aend) _ _ _ (heap_set _ _ 5 (.int .i64 m.aseq) _ _ _ (heap_set _ _ 4 (.int .i64 m.time) _ _ _ (heap_set _ _ 3 (.int .i64 m.seq) _ _ _ (heap_set _ _ 2 (.int .i64 m.to) _ _ _ (heap_set _ _ 1 (.int .i64 m.fro) _ _ _ (heap_set _ _ 0 (.int .i64 m.kind) _ _ _ hres8))))))))))))))
      simpa using this
    have e0 : ((((((((((((((w8.setCell ⟨w.heap.size, 0, none⟩ (.int .i64 m.kind)).setCell ⟨w.heap.size, 1, none⟩ (.int .i64 m.fro)).setCell ⟨w.heap.size, 2, none⟩ (.int .i64 m.to)).setCell ⟨w.heap.size, 3, none⟩ (.int .i64 m.seq)).setCell ⟨w.heap.size, 4, none⟩ (.int .i64 m.time)).setCell ⟨w.heap.size, 5, none⟩ (.int .i64 m.aseq)).setCell ⟨w.heap.size, 6, none⟩ (.int .i64 m.aend)).setCell ⟨w.heap.size, 7, none⟩ (.slice A m.prof.length c)).setCell ⟨w.heap.size, 8, none⟩ (.slice A' m.links.length c')).setCell ⟨w.heap.size, 9, none⟩ (.int .i64 m.min)).setCell ⟨w.heap.size, 10, none⟩ (.int .i64 m.speed)).setCell ⟨w.heap.size, 11, none⟩ (.int .i64 m.mode)).setCell ⟨w.heap.size, 12, none⟩ (.int .i64 m.acc)).setCell ⟨w.heap.size, 13, none⟩ (.bool m.whole)).cell? ⟨w.heap.size, 0, none⟩ = some (.int .i64 m.kind) := by rw [Lib.cell_of_heap hW]; rfl
    have e1 : ((((((((((((((w8.setCell ⟨w.heap.size, 0, none⟩ (.int .i64 m.kind)).setCell ⟨w.heap.size, 1, none⟩ (.int .i64 m.fro)).setCell ⟨w.heap.size, 2, none⟩ (.int .i64 m.to)).setCell ⟨w.heap.size, 3, none⟩ (.int .i64 m.seq)).setCell ⟨w.heap.size, 4, none⟩ (.int .i64 m.time)).setCell ⟨w.heap.size, 5, none⟩ (.int .i64 m.aseq)).setCell ⟨w.heap.size, 6, none⟩ (.int .i64 m.aend)).setCell ⟨w.heap.size, 7, none⟩ (.slice A m.prof.length c)).setCell ⟨w.heap.size, 8, none⟩ (.slice A' m.links.length c')).setCell ⟨w.heap.size, 9, none⟩ (.int .i64 m.min)).setCell ⟨w.heap.size, 10, none⟩ (.int .i64 m.speed)).setCell ⟨w.heap.size, 11, none⟩ (.int .i64 m.mode)).setCell ⟨w.heap.size, 12, none⟩ (.int .i64 m.acc)).setCell ⟨w.heap.size, 13, none⟩ (.bool m.whole)).cell? ⟨w.heap.size, 1, none⟩ = some (.int .i64 m.fro) := by rw [Lib.cell_of_heap hW]; rfl
    have e2 : ((((((((((((((w8.setCell ⟨w.heap.size, 0, none⟩ (.int .i64 m.kind)).setCell ⟨w.heap.size, 1, none⟩ (.int .i64 m.fro)).setCell ⟨w.heap.size, 2, none⟩ (.int .i64 m.to)).setCell ⟨w.heap.size, 3, none⟩ (.int .i64 m.seq)).setCell ⟨w.heap.size, 4, none⟩ (.int .i64 m.time)).setCell ⟨w.heap.size, 5, none⟩ (.int .i64 m.aseq)).setCell ⟨w.heap.size, 6, none⟩ (.int .i64 m.aend)).setCell ⟨w.heap.size, 7, none⟩ (.slice A m.prof.length c)).setCell ⟨w.heap.size, 8, none⟩ (.slice A' m.links.length c')).setCell ⟨w.heap.size, 9, none⟩ (.int .i64 m.min)).setCell ⟨w.heap.size, 10, none⟩ (.int .i64 m.speed)).setCell ⟨w.heap.size, 11, none⟩ (.int .i64 m.mode)).setCell ⟨w.heap.size, 12, none⟩ (.int .i64 m.acc)).setCell ⟨w.heap.size, 13, none⟩ (.bool m.whole)).cell? ⟨w.heap.size, 2, none⟩ = some (.int .i64 m.to) := by rw [Lib.cell_of_heap hW]; rfl
    have e3 : ((((((((((((((w8.setCell ⟨w.heap.size, 0, none⟩ (.int .i64 m.kind)).setCell ⟨w.heap.size, 1, none⟩ (.int .i64 m.fro)).setCell ⟨w.heap.size, 2, none⟩ (.int .i64 m.to)).setCell ⟨w.heap.size, 3, none⟩ (.int .i64 m.seq)).setCell ⟨w.heap.size, 4, none⟩ (.int .i64 m.time)).setCell ⟨w.heap.size, 5, none⟩ (.int .i64 m.aseq)).setCell ⟨w.heap.size, 6, none⟩ (.int .i64 m.aend)).setCell ⟨w.heap.size, 7, none⟩ (.slice A m.prof.length c)).setCell ⟨w.heap.size, 8, none⟩ (.slice A' m.links.length c')).setCell ⟨w.heap.size, 9, none⟩ (.int .i64 m.min)).setCell ⟨w.heap.size, 10, none⟩ (.int .i64 m.speed)).setCell ⟨w.heap.size, 11, none⟩ (.int .i64 m.mode)).setCell ⟨w.heap.size, 12, none⟩ (.int .i64 m.acc)).setCell ⟨w.heap.size, 13, none⟩ (.bool m.whole)).cell? ⟨w.heap.size, 3, none⟩ = some (.int .i64 m.seq) := by rw [Lib.cell_of_heap hW]; rfl
    have e4 : ((((((((((((((w8.setCell ⟨w.heap.size, 0, none⟩ (.int .i64 m.kind)).setCell ⟨w.heap.size, 1, none⟩ (.int .i64 m.fro)).setCell ⟨w.heap.size, 2, none⟩ (.int .i64 m.to)).setCell ⟨w.heap.size, 3, none⟩ (.int .i64 m.seq)).setCell ⟨w.heap.size, 4, none⟩ (.int .i64 m.time)).setCell ⟨w.heap.size, 5, none⟩ (.int .i64 m.aseq)).setCell ⟨w.heap.size, 6, none⟩ (.int .i64 m.aend)).setCell ⟨w.heap.size, 7, none⟩ (.slice A m.prof.length c)).setCell ⟨w.heap.size, 8, none⟩ (.slice A' m.links.length c')).setCell ⟨w.heap.size, 9, none⟩ (.int .i64 m.min)).setCell ⟨w.heap.size, 10, none⟩ (.int .i64 m.speed)).setCell ⟨w.heap.size, 11, none⟩ (.int .i64 m.mode)).setCell ⟨w.heap.size, 12, none⟩ (.int .i64 m.acc)).setCell ⟨w.heap.size, 13, none⟩ (.bool m.whole)).cell? ⟨w.heap.size, 4, none⟩ = some (.int .i64 m.time) := by rw [Lib.cell_of_heap hW]; rfl
    have e5 : ((((((((((((((w8.setCell ⟨w.heap.size, 0, none⟩ (.int .i64 m.kind)).setCell ⟨w.heap.size, 1, none⟩ (.int .i64 m.fro)).setCell ⟨w.heap.size, 2, none⟩ (.int .i64 m.to)).setCell ⟨w.heap.size, 3, none⟩ (.int .i64 m.seq)).setCell ⟨w.heap.size, 4, none⟩ (.int .i64 m.time)).setCell ⟨w.heap.size, 5, none⟩ (.int .i64 m.aseq)).setCell ⟨w.heap.size, 6, none⟩ (.int .i64 m.aend)).setCell ⟨w.heap.size, 7, none⟩ (.slice A m.prof.length c)).setCell ⟨w.heap.size, 8, none⟩ (.slice A' m.links.length c')).setCell ⟨w.heap.size, 9, none⟩ (.int .i64 m.min)).setCell ⟨w.heap.size, 10, none⟩ (.int .i64 m.speed)).setCell ⟨w.heap.size, 11, none⟩ (.int .i64 m.mode)).setCell ⟨w.heap.size, 12, none⟩ (.int .i64 m.acc)).setCell ⟨w.heap.size, 13, none⟩ (.bool m.whole)).cell? ⟨w.heap.size, 5, none⟩ = some (.int .i64 m.aseq) := by rw [Lib.cell_of_heap hW]; rfl
    have e6 : ((((((((((((((w8.setCell ⟨w.heap.size, 0, none⟩ (.int .i64 m.kind)).setCell ⟨w.heap.size, 1, none⟩ (.int .i64 m.fro)).setCell ⟨w.heap.size, 2, none⟩ (.int .i64 m.to)).setCell ⟨w.heap.size, 3, none⟩ (.int .i64 m.seq)).setCell ⟨w.heap.size, 4, none⟩ (.int .i64 m.time)).setCell ⟨w.heap.size, 5, none⟩ (.int .i64 m.aseq)).setCell ⟨w.heap.size, 6, none⟩ (.int .i64 m.aend)).setCell ⟨w.heap.size, 7, none⟩ (.slice A m.prof.length c)).setCell ⟨w.heap.size, 8, none⟩ (.slice A' m.links.length c')).setCell ⟨w.heap.size, 9, none⟩ (.int .i64 m.min)).setCell ⟨w.heap.size, 10, none⟩ (.int .i64 m.speed)).setCell ⟨w.heap.size, 11, none⟩ (.int .i64 m.mode)).setCell ⟨w.heap.size, 12, none⟩ (.int .i64 m.acc)).setCell ⟨w.heap.size, 13, none⟩ (.bool m.whole)).cell? ⟨w.heap.size, 6, none⟩ = some (.int .i64 m.aend) := by rw [Lib.cell_of_heap hW]; rfl
    have e7 : ((((((((((((((w8.setCell ⟨w.heap.size, 0, none⟩ (.int .i64 m.kind)).setCell ⟨w.heap.size, 1, none⟩ (.int .i64 m.fro)).setCell ⟨w.heap.size, 2, none⟩ (.int .i64 m.to)).setCell ⟨w.heap.size, 3, none⟩ (.int .i64 m.seq)).setCell ⟨w.heap.size, 4, none⟩ (.int .i64 m.time)).setCell ⟨w.heap.size, 5, none⟩ (.int .i64 m.aseq)).setCell ⟨w.heap.size, 6, none⟩ (.int .i64 m.aend)).setCell ⟨w.heap.size, 7, none⟩ (.slice A m.prof.length c)).setCell ⟨w.heap.size, 8, none⟩ (.slice A' m.links.length c')).setCell ⟨w.heap.size, 9, none⟩ (.int .i64 m.min)).setCell ⟨w.heap.size, 10, none⟩ (.int .i64 m.speed)).setCell ⟨w.heap.size, 11, none⟩ (.int .i64 m.mode)).setCell ⟨w.heap.size, 12, none⟩ (.int .i64 m.acc)).setCell ⟨w.heap.size, 13, none⟩ (.bool m.whole)).cell? ⟨w.heap.size, 7, none⟩ = some (.slice A m.prof.length c) := by rw [Lib.cell_of_heap hW]; rfl
    have e8 : ((((((((((((((w8.setCell ⟨w.heap.size, 0, none⟩ (.int .i64 m.kind)).setCell ⟨w.heap.size, 1, none⟩ (.int .i64 m.fro)).setCell ⟨w.heap.size, 2, none⟩ (.int .i64 m.to)).setCell ⟨w.heap.size, 3, none⟩ (.int .i64 m.seq)).setCell ⟨w.heap.size, 4, none⟩ (.int .i64 m.time)).setCell ⟨w.heap.size, 5, none⟩ (.int .i64 m.aseq)).setCell ⟨w.heap.size, 6, none⟩ (.int .i64 m.aend)).setCell ⟨w.heap.size, 7, none⟩ (.slice A m.prof.length c)).setCell ⟨w.heap.size, 8, none⟩ (.slice A' m.links.length c')).setCell ⟨w.heap.size, 9, none⟩ (.int .i64 m.min)).setCell ⟨w.heap.size, 10, none⟩ (.int .i64 m.speed)).setCell ⟨w.heap.size, 11, none⟩ (.int .i64 m.mode)).setCell ⟨w.heap.size, 12, none⟩ (.int .i64 m.acc)).setCell ⟨w.heap.size, 13, none⟩ (.bool m.whole)).cell? ⟨w.heap.size, 8, none⟩ = some (.slice A' m.links.length c') := by rw [Lib.cell_of_heap hW]; rfl
    have e9 : ((((((((((((((w8.setCell ⟨w.heap.size, 0, none⟩ (.int .i64 m.kind)).setCell ⟨w.heap.size, 1, none⟩ (.int .i64 m.fro)).setCell ⟨w.heap.size, 2, none⟩ (.int .i64 m.to)).setCell ⟨w.heap.size, 3, none⟩ (.int .i64 m.seq)).setCell ⟨w.heap.size, 4, none⟩ (.int .i64 m.time)).setCell ⟨w.heap.size, 5, none⟩ (.int .i64 m.aseq)).setCell ⟨w.heap.size, 6, none⟩ (.int .i64 m.aend)).setCell ⟨w.heap.size, 7, none⟩ (.slice A m.prof.length c)).setCell ⟨w.heap.size, 8, none⟩ (.slice A' m.links.length c')).setCell ⟨w.heap.size, 9, none⟩ (.int .i64 m.min)).setCell ⟨w.heap.size, 10, none⟩ (.int .i64 m.speed)).setCell ⟨w.heap.size, 11, none⟩ (.int .i64 m.mode)).setCell ⟨w.heap.size, 12, none⟩ (.int .i64 m.acc)).setCell ⟨w.heap.size, 13, none⟩ (.bool m.whole)).cell? ⟨w.heap.size, 9, none⟩ = some (.int .i64 m.min) := by rw [Lib.cell_of_heap hW]; rfl
    have e10 : ((((((((((((((w8.setCell ⟨w.heap.size, 0, none⟩ (.int .i64 m.kind)).setCell ⟨w.heap.size, 1, none⟩ (.int .i64 m.fro)).setCell ⟨w.heap.size, 2, none⟩ (.int .i64 m.to)).setCell ⟨w.heap.size, 3, none⟩ (.int .i64 m.seq)).setCell ⟨w.heap.size, 4, none⟩ (.int .i64 m.time)).setCell ⟨w.heap.size, 5, none⟩ (.int .i64 m.aseq)).setCell ⟨w.heap.size, 6, none⟩ (.int .i64 m.aend)).setCell ⟨w.heap.size, 7, none⟩ (.slice A m.prof.length c)).setCell ⟨w.heap.size, 8, none⟩ (.slice A' m.links.length c')).setCell ⟨w.heap.size, 9, none⟩ (.int .i64 m.min)).setCell ⟨w.heap.size, 10, none⟩ (.int .i64 m.speed)).setCell ⟨w.heap.size, 11, none⟩ (.int .i64 m.mode)).setCell ⟨w.heap.size, 12, none⟩ (.int .i64 m.acc)).setCell ⟨w.heap.size, 13, none⟩ (.bool m.whole)).cell? ⟨w.heap.size, 10, none⟩ = some (.int .i64 m.speed) := by rw [Lib.cell_of_heap hW]; rfl
    have e11 : ((((((((((((((w8.setCell ⟨w.heap.size, 0, none⟩ (.int .i64 m.kind)).setCell ⟨w.heap.size, 1, none⟩ (.int .i64 m.fro)).setCell ⟨w.heap.size, 2, none⟩ (.int .i64 m.to)).setCell ⟨w.heap.size, 3, none⟩ (.int .i64 m.seq)).setCell ⟨w.heap.size, 4, none⟩ (.int .i64 m.time)).setCell ⟨w.heap.size, 5, none⟩ (.int .i64 m.aseq)).setCell ⟨w.heap.size, 6, none⟩ (.int .i64 m.aend)).setCell ⟨w.heap.size, 7, none⟩ (.slice A m.prof.length c)).setCell ⟨w.heap.size, 8, none⟩ (.slice A' m.links.length c')).setCell ⟨w.heap.size, 9, none⟩ (.int .i64 m.min)).setCell ⟨w.heap.size, 10, none⟩ (.int .i64 m.speed)).setCell ⟨w.heap.size, 11, none⟩ (.int .i64 m.mode)).setCell ⟨w.heap.size, 12, none⟩ (.int .i64 m.acc)).setCell ⟨w.heap.size, 13, none⟩ (.bool m.whole)).cell? ⟨w.heap.size, 11, none⟩ = some (.int .i64 m.mode) := by rw [Lib.cell_of_heap hW]; rfl
    have e12 : ((((((((((((((w8.setCell ⟨w.heap.size, 0, none⟩ (.int .i64 m.kind)).setCell ⟨w.heap.size, 1, none⟩ (.int .i64 m.fro)).setCell ⟨w.heap.size, 2, none⟩ (.int .i64 m.to)).setCell ⟨w.heap.size, 3, none⟩ (.int .i64 m.seq)).setCell ⟨w.heap.size, 4, none⟩ (.int .i64 m.time)).setCell ⟨w.heap.size, 5, none⟩ (.int .i64 m.aseq)).setCell ⟨w.heap.size, 6, none⟩ (.int .i64 m.aend)).setCell ⟨w.heap.size, 7, none⟩ (.slice A m.prof.length c)).setCell ⟨w.heap.size, 8, none⟩ (.slice A' m.links.length c')).setCell ⟨w.heap.size, 9, none⟩ (.int .i64 m.min)).setCell ⟨w.heap.size, 10, none⟩ (.int .i64 m.speed)).setCell ⟨w.heap.size, 11, none⟩ (.int .i64 m.mode)).setCell ⟨w.heap.size, 12, none⟩ (.int .i64 m.acc)).setCell ⟨w.heap.size, 13, none⟩ (.bool m.whole)).cell? ⟨w.heap.size, 12, none⟩ = some (.int .i64 m.acc) := by rw [Lib.cell_of_heap hW]; rfl
    have e13 : ((((((((((((((w8.setCell ⟨w.heap.size, 0, none⟩ (.int .i64 m.kind)).setCell ⟨w.heap.size, 1, none⟩ (.int .i64 m.fro)).setCell ⟨w.heap.size, 2, none⟩ (.int .i64 m.to)).setCell ⟨w.heap.size, 3, none⟩ (.int .i64 m.seq)).setCell ⟨w.heap.size, 4, none⟩ (.int .i64 m.time)).setCell ⟨w.heap.size, 5, none⟩ (.int .i64 m.aseq)).setCell ⟨w.heap.size, 6, none⟩ (.int .i64 m.aend)).setCell ⟨w.heap.size, 7, none⟩ (.slice A m.prof.length c)).setCell ⟨w.heap.size, 8, none⟩ (.slice A' m.links.length c')).setCell ⟨w.heap.size, 9, none⟩ (.int .i64 m.min)).setCell ⟨w.heap.size, 10, none⟩ (.int .i64 m.speed)).setCell ⟨w.heap.size, 11, none⟩ (.int .i64 m.mode)).setCell ⟨w.heap.size, 12, none⟩ (.int .i64 m.acc)).setCell ⟨w.heap.size, 13, none⟩ (.bool m.whole)).cell? ⟨w.heap.size, 13, none⟩ = some (.bool m.whole) := by rw [Lib.cell_of_heap hW]; rfl
    refine bodyPost_ret (v := .tuple #[.agg #[.int .i64 m.kind, .int .i64 m.fro, .int .i64 m.to, .int .i64 m.seq, .int .i64 m.time, .int .i64 m.aseq, .int .i64 m.aend, .slice A m.prof.length c, .slice A' m.links.length c', .int .i64 m.min, .int .i64 m.speed, .int .i64 m.mode, .int .i64 m.acc, .bool m.whole], .int .i64 0]) (by simp [results, Try.results66, go_sem, e0, e1, e2, e3, e4, e5, e6, e7, e8, e9, e10, e11, e12, e13]) rfl ?_
    rw [HDEF.out, if_neg (by rw [HE.out]; simp)]
    have on1 : ((((((((((((((w8.setCell ⟨w.heap.size, 0, none⟩ (.int .i64 m.kind)).setCell ⟨w.heap.size, 1, none⟩ (.int .i64 m.fro)).setCell ⟨w.heap.size, 2, none⟩ (.int .i64 m.to)).setCell ⟨w.heap.size, 3, none⟩ (.int .i64 m.seq)).setCell ⟨w.heap.size, 4, none⟩ (.int .i64 m.time)).setCell ⟨w.heap.size, 5, none⟩ (.int .i64 m.aseq)).setCell ⟨w.heap.size, 6, none⟩ (.int .i64 m.aend)).setCell ⟨w.heap.size, 7, none⟩ (.slice A m.prof.length c)).setCell ⟨w.heap.size, 8, none⟩ (.slice A' m.links.length c')).setCell ⟨w.heap.size, 9, none⟩ (.int .i64 m.min)).setCell ⟨w.heap.size, 10, none⟩ (.int .i64 m.speed)).setCell ⟨w.heap.size, 11, none⟩ (.int .i64 m.mode)).setCell ⟨w.heap.size, 12, none⟩ (.int .i64 m.acc)).setCell ⟨w.heap.size, 13, none⟩ (.bool m.whole)).ownsRow base 100 4 (.slice A m.prof.length c) m.prof.length (m.prof.flatMap Seg.cells) := (own_set (own_set (own_set (own_set (own_set (own_set (own_set (own_set (own_set (own_set (own_set (own_set (own_set (own_set n1 _ _ _ (by omega)) _ _ _ (by omega)) _ _ _ (by omega)) _ _ _ (by omega)) _ _ _ (by omega)) _ _ _ (by omega)) _ _ _ (by omega)) _ _ _ (by omega)) _ _ _ (by omega)) _ _ _ (by omega)) _ _ _ (by omega)) _ _ _ (by omega)) _ _ _ (by omega)) _ _ _ (by omega))
    have on2 : ((((((((((((((w8.setCell ⟨w.heap.size, 0, none⟩ (.int .i64 m.kind)).setCell ⟨w.heap.size, 1, none⟩ (.int .i64 m.fro)).setCell ⟨w.heap.size, 2, none⟩ (.int .i64 m.to)).setCell ⟨w.heap.size, 3, none⟩ (.int .i64 m.seq)).setCell ⟨w.heap.size, 4, none⟩ (.int .i64 m.time)).setCell ⟨w.heap.size, 5, none⟩ (.int .i64 m.aseq)).setCell ⟨w.heap.size, 6, none⟩ (.int .i64 m.aend)).setCell ⟨w.heap.size, 7, none⟩ (.slice A m.prof.length c)).setCell ⟨w.heap.size, 8, none⟩ (.slice A' m.links.length c')).setCell ⟨w.heap.size, 9, none⟩ (.int .i64 m.min)).setCell ⟨w.heap.size, 10, none⟩ (.int .i64 m.speed)).setCell ⟨w.heap.size, 11, none⟩ (.int .i64 m.mode)).setCell ⟨w.heap.size, 12, none⟩ (.int .i64 m.acc)).setCell ⟨w.heap.size, 13, none⟩ (.bool m.whole)).ownsRow base 77 2 (.slice A' m.links.length c') m.links.length (m.links.flatMap Lnk.cells) := (own_set (own_set (own_set (own_set (own_set (own_set (own_set (own_set (own_set (own_set (own_set (own_set (own_set (own_set n2 _ _ _ (by omega)) _ _ _ (by omega)) _ _ _ (by omega)) _ _ _ (by omega)) _ _ _ (by omega)) _ _ _ (by omega)) _ _ _ (by omega)) _ _ _ (by omega)) _ _ _ (by omega)) _ _ _ (by omega)) _ _ _ (by omega)) _ _ _ (by omega)) _ _ _ (by omega)) _ _ _ (by omega))
    obtain ⟨A1, k1', h1, r1⟩ := rdS_own (n := 4) (cells := Seg.cells) (ok := Seg.ok) (hn := fun _ => rfl) on1 hok.2.1
    obtain ⟨A2, k2', h2, r2⟩ := rdS_own (n := 2) (cells := Lnk.cells) (ok := Lnk.ok) (hn := fun _ => rfl) on2 hok.2.2
    simp only [Value.slice.injEq] at h1 h2
    obtain ⟨rfl, -, rfl⟩ := h1
    obtain ⟨rfl, -, rfl⟩ := h2
    exact ⟨_, _, _, _, rfl, r1, r2, ((((((((((((((hB8.setCell (Nat.le_refl _) _).setCell (Nat.le_refl _) _).setCell (Nat.le_refl _) _).setCell (Nat.le_refl _) _).setCell (Nat.le_refl _) _).setCell (Nat.le_refl _) _).setCell (Nat.le_refl _) _).setCell (Nat.le_refl _) _).setCell (Nat.le_refl _) _).setCell (Nat.le_refl _) _).setCell (Nat.le_refl _) _).setCell (Nat.le_refl _) _).setCell (Nat.le_refl _) _).setCell (Nat.le_refl _) _)⟩
  · have he1 : (encM m == l) = false := by simp [he]
    have he2 : (encM m != l) = true := by simp [he]
    have HE := Lib.hid he
    clear he
    go_wp2_with fail
    have hW : ((((((((((((((w8.setCell ⟨w.heap.size, 0, none⟩ (.int .i64 0)).setCell ⟨w.heap.size, 1, none⟩ (.int .i64 0)).setCell ⟨w.heap.size, 2, none⟩ (.int .i64 0)).setCell ⟨w.heap.size, 3, none⟩ (.int .i64 0)).setCell ⟨w.heap.size, 4, none⟩ (.int .i64 0)).setCell ⟨w.heap.size, 5, none⟩ (.int .i64 0)).setCell ⟨w.heap.size, 6, none⟩ (.int .i64 0)).setCell ⟨w.heap.size, 7, none⟩ (.slice none 0 0)).setCell ⟨w.heap.size, 8, none⟩ (.slice none 0 0)).setCell ⟨w.heap.size, 9, none⟩ (.int .i64 0)).setCell ⟨w.heap.size, 10, none⟩ (.int .i64 0)).setCell ⟨w.heap.size, 11, none⟩ (.int .i64 0)).setCell ⟨w.heap.size, 12, none⟩ (.int .i64 0)).setCell ⟨w.heap.size, 13, none⟩ (.bool false)).heap[w.heap.size]? = some (.cells #[.int .i64 0, .int .i64 0, .int .i64 0, .int .i64 0, .int .i64 0, .int .i64 0, .int .i64 0, .slice none 0 0, .slice none 0 0, .int .i64 0, .int .i64 0, .int .i64 0, .int .i64 0, .bool false] 69 (0, 0)) := by
      have := (heap_set _ _ 13 (.bool false) _ _ _ (heap_set _ _ 12 (.int .i64 0) _ _ _ (heap_set _ _ 11 (.int .i64 0) _ _ _ (heap_set _ _ 10 (.int .i64 0) _ _ _ (heap_set _ _ 9 (.int .i64 0) _ _ _ (heap_set _ _ 8 (.slice none 0 0) _ _ _ (heap_set _ _ 7 (.slice none 0 0) _ _ _ (heap_set _ _ 6 (.int .i64 0) _ _ _ (heap_set _ _ 5 (.int .i64 0) _ _ _ (heap_set _ _ 4 (.int .i64 0) _ _ _ (heap_set _ _ 3 (.int .i64 0) _ _ _ (heap_set _ _ 2 (.int .i64 0) _ _ _ (heap_set _ _ 1 (.int .i64 0) _ _ _ (heap_set _ _ 0 (.int .i64 0) _ _ _ hres8))))))))))))))
      simpa using this
    have e0 : ((((((((((((((w8.setCell ⟨w.heap.size, 0, none⟩ (.int .i64 0)).setCell ⟨w.heap.size, 1, none⟩ (.int .i64 0)).setCell ⟨w.heap.size, 2, none⟩ (.int .i64 0)).setCell ⟨w.heap.size, 3, none⟩ (.int .i64 0)).setCell ⟨w.heap.size, 4, none⟩ (.int .i64 0)).setCell ⟨w.heap.size, 5, none⟩ (.int .i64 0)).setCell ⟨w.heap.size, 6, none⟩ (.int .i64 0)).setCell ⟨w.heap.size, 7, none⟩ (.slice none 0 0)).setCell ⟨w.heap.size, 8, none⟩ (.slice none 0 0)).setCell ⟨w.heap.size, 9, none⟩ (.int .i64 0)).setCell ⟨w.heap.size, 10, none⟩ (.int .i64 0)).setCell ⟨w.heap.size, 11, none⟩ (.int .i64 0)).setCell ⟨w.heap.size, 12, none⟩ (.int .i64 0)).setCell ⟨w.heap.size, 13, none⟩ (.bool false)).cell? ⟨w.heap.size, 0, none⟩ = some (.int .i64 0) := by rw [Lib.cell_of_heap hW]; rfl
    have e1 : ((((((((((((((w8.setCell ⟨w.heap.size, 0, none⟩ (.int .i64 0)).setCell ⟨w.heap.size, 1, none⟩ (.int .i64 0)).setCell ⟨w.heap.size, 2, none⟩ (.int .i64 0)).setCell ⟨w.heap.size, 3, none⟩ (.int .i64 0)).setCell ⟨w.heap.size, 4, none⟩ (.int .i64 0)).setCell ⟨w.heap.size, 5, none⟩ (.int .i64 0)).setCell ⟨w.heap.size, 6, none⟩ (.int .i64 0)).setCell ⟨w.heap.size, 7, none⟩ (.slice none 0 0)).setCell ⟨w.heap.size, 8, none⟩ (.slice none 0 0)).setCell ⟨w.heap.size, 9, none⟩ (.int .i64 0)).setCell ⟨w.heap.size, 10, none⟩ (.int .i64 0)).setCell ⟨w.heap.size, 11, none⟩ (.int .i64 0)).setCell ⟨w.heap.size, 12, none⟩ (.int .i64 0)).setCell ⟨w.heap.size, 13, none⟩ (.bool false)).cell? ⟨w.heap.size, 1, none⟩ = some (.int .i64 0) := by rw [Lib.cell_of_heap hW]; rfl
    have e2 : ((((((((((((((w8.setCell ⟨w.heap.size, 0, none⟩ (.int .i64 0)).setCell ⟨w.heap.size, 1, none⟩ (.int .i64 0)).setCell ⟨w.heap.size, 2, none⟩ (.int .i64 0)).setCell ⟨w.heap.size, 3, none⟩ (.int .i64 0)).setCell ⟨w.heap.size, 4, none⟩ (.int .i64 0)).setCell ⟨w.heap.size, 5, none⟩ (.int .i64 0)).setCell ⟨w.heap.size, 6, none⟩ (.int .i64 0)).setCell ⟨w.heap.size, 7, none⟩ (.slice none 0 0)).setCell ⟨w.heap.size, 8, none⟩ (.slice none 0 0)).setCell ⟨w.heap.size, 9, none⟩ (.int .i64 0)).setCell ⟨w.heap.size, 10, none⟩ (.int .i64 0)).setCell ⟨w.heap.size, 11, none⟩ (.int .i64 0)).setCell ⟨w.heap.size, 12, none⟩ (.int .i64 0)).setCell ⟨w.heap.size, 13, none⟩ (.bool false)).cell? ⟨w.heap.size, 2, none⟩ = some (.int .i64 0) := by rw [Lib.cell_of_heap hW]; rfl
    have e3 : ((((((((((((((w8.setCell ⟨w.heap.size, 0, none⟩ (.int .i64 0)).setCell ⟨w.heap.size, 1, none⟩ (.int .i64 0)).setCell ⟨w.heap.size, 2, none⟩ (.int .i64 0)).setCell ⟨w.heap.size, 3, none⟩ (.int .i64 0)).setCell ⟨w.heap.size, 4, none⟩ (.int .i64 0)).setCell ⟨w.heap.size, 5, none⟩ (.int .i64 0)).setCell ⟨w.heap.size, 6, none⟩ (.int .i64 0)).setCell ⟨w.heap.size, 7, none⟩ (.slice none 0 0)).setCell ⟨w.heap.size, 8, none⟩ (.slice none 0 0)).setCell ⟨w.heap.size, 9, none⟩ (.int .i64 0)).setCell ⟨w.heap.size, 10, none⟩ (.int .i64 0)).setCell ⟨w.heap.size, 11, none⟩ (.int .i64 0)).setCell ⟨w.heap.size, 12, none⟩ (.int .i64 0)).setCell ⟨w.heap.size, 13, none⟩ (.bool false)).cell? ⟨w.heap.size, 3, none⟩ = some (.int .i64 0) := by rw [Lib.cell_of_heap hW]; rfl
    have e4 : ((((((((((((((w8.setCell ⟨w.heap.size, 0, none⟩ (.int .i64 0)).setCell ⟨w.heap.size, 1, none⟩ (.int .i64 0)).setCell ⟨w.heap.size, 2, none⟩ (.int .i64 0)).setCell ⟨w.heap.size, 3, none⟩ (.int .i64 0)).setCell ⟨w.heap.size, 4, none⟩ (.int .i64 0)).setCell ⟨w.heap.size, 5, none⟩ (.int .i64 0)).setCell ⟨w.heap.size, 6, none⟩ (.int .i64 0)).setCell ⟨w.heap.size, 7, none⟩ (.slice none 0 0)).setCell ⟨w.heap.size, 8, none⟩ (.slice none 0 0)).setCell ⟨w.heap.size, 9, none⟩ (.int .i64 0)).setCell ⟨w.heap.size, 10, none⟩ (.int .i64 0)).setCell ⟨w.heap.size, 11, none⟩ (.int .i64 0)).setCell ⟨w.heap.size, 12, none⟩ (.int .i64 0)).setCell ⟨w.heap.size, 13, none⟩ (.bool false)).cell? ⟨w.heap.size, 4, none⟩ = some (.int .i64 0) := by rw [Lib.cell_of_heap hW]; rfl
    have e5 : ((((((((((((((w8.setCell ⟨w.heap.size, 0, none⟩ (.int .i64 0)).setCell ⟨w.heap.size, 1, none⟩ (.int .i64 0)).setCell ⟨w.heap.size, 2, none⟩ (.int .i64 0)).setCell ⟨w.heap.size, 3, none⟩ (.int .i64 0)).setCell ⟨w.heap.size, 4, none⟩ (.int .i64 0)).setCell ⟨w.heap.size, 5, none⟩ (.int .i64 0)).setCell ⟨w.heap.size, 6, none⟩ (.int .i64 0)).setCell ⟨w.heap.size, 7, none⟩ (.slice none 0 0)).setCell ⟨w.heap.size, 8, none⟩ (.slice none 0 0)).setCell ⟨w.heap.size, 9, none⟩ (.int .i64 0)).setCell ⟨w.heap.size, 10, none⟩ (.int .i64 0)).setCell ⟨w.heap.size, 11, none⟩ (.int .i64 0)).setCell ⟨w.heap.size, 12, none⟩ (.int .i64 0)).setCell ⟨w.heap.size, 13, none⟩ (.bool false)).cell? ⟨w.heap.size, 5, none⟩ = some (.int .i64 0) := by rw [Lib.cell_of_heap hW]; rfl
    have e6 : ((((((((((((((w8.setCell ⟨w.heap.size, 0, none⟩ (.int .i64 0)).setCell ⟨w.heap.size, 1, none⟩ (.int .i64 0)).setCell ⟨w.heap.size, 2, none⟩ (.int .i64 0)).setCell ⟨w.heap.size, 3, none⟩ (.int .i64 0)).setCell ⟨w.heap.size, 4, none⟩ (.int .i64 0)).setCell ⟨w.heap.size, 5, none⟩ (.int .i64 0)).setCell ⟨w.heap.size, 6, none⟩ (.int .i64 0)).setCell ⟨w.heap.size, 7, none⟩ (.slice none 0 0)).setCell ⟨w.heap.size, 8, none⟩ (.slice none 0 0)).setCell ⟨w.heap.size, 9, none⟩ (.int .i64 0)).setCell ⟨w.heap.size, 10, none⟩ (.int .i64 0)).setCell ⟨w.heap.size, 11, none⟩ (.int .i64 0)).setCell ⟨w.heap.size, 12, none⟩ (.int .i64 0)).setCell ⟨w.heap.size, 13, none⟩ (.bool false)).cell? ⟨w.heap.size, 6, none⟩ = some (.int .i64 0) := by rw [Lib.cell_of_heap hW]; rfl
    have e7 : ((((((((((((((w8.setCell ⟨w.heap.size, 0, none⟩ (.int .i64 0)).setCell ⟨w.heap.size, 1, none⟩ (.int .i64 0)).setCell ⟨w.heap.size, 2, none⟩ (.int .i64 0)).setCell ⟨w.heap.size, 3, none⟩ (.int .i64 0)).setCell ⟨w.heap.size, 4, none⟩ (.int .i64 0)).setCell ⟨w.heap.size, 5, none⟩ (.int .i64 0)).setCell ⟨w.heap.size, 6, none⟩ (.int .i64 0)).setCell ⟨w.heap.size, 7, none⟩ (.slice none 0 0)).setCell ⟨w.heap.size, 8, none⟩ (.slice none 0 0)).setCell ⟨w.heap.size, 9, none⟩ (.int .i64 0)).setCell ⟨w.heap.size, 10, none⟩ (.int .i64 0)).setCell ⟨w.heap.size, 11, none⟩ (.int .i64 0)).setCell ⟨w.heap.size, 12, none⟩ (.int .i64 0)).setCell ⟨w.heap.size, 13, none⟩ (.bool false)).cell? ⟨w.heap.size, 7, none⟩ = some (.slice none 0 0) := by rw [Lib.cell_of_heap hW]; rfl
    have e8 : ((((((((((((((w8.setCell ⟨w.heap.size, 0, none⟩ (.int .i64 0)).setCell ⟨w.heap.size, 1, none⟩ (.int .i64 0)).setCell ⟨w.heap.size, 2, none⟩ (.int .i64 0)).setCell ⟨w.heap.size, 3, none⟩ (.int .i64 0)).setCell ⟨w.heap.size, 4, none⟩ (.int .i64 0)).setCell ⟨w.heap.size, 5, none⟩ (.int .i64 0)).setCell ⟨w.heap.size, 6, none⟩ (.int .i64 0)).setCell ⟨w.heap.size, 7, none⟩ (.slice none 0 0)).setCell ⟨w.heap.size, 8, none⟩ (.slice none 0 0)).setCell ⟨w.heap.size, 9, none⟩ (.int .i64 0)).setCell ⟨w.heap.size, 10, none⟩ (.int .i64 0)).setCell ⟨w.heap.size, 11, none⟩ (.int .i64 0)).setCell ⟨w.heap.size, 12, none⟩ (.int .i64 0)).setCell ⟨w.heap.size, 13, none⟩ (.bool false)).cell? ⟨w.heap.size, 8, none⟩ = some (.slice none 0 0) := by rw [Lib.cell_of_heap hW]; rfl
    have e9 : ((((((((((((((w8.setCell ⟨w.heap.size, 0, none⟩ (.int .i64 0)).setCell ⟨w.heap.size, 1, none⟩ (.int .i64 0)).setCell ⟨w.heap.size, 2, none⟩ (.int .i64 0)).setCell ⟨w.heap.size, 3, none⟩ (.int .i64 0)).setCell ⟨w.heap.size, 4, none⟩ (.int .i64 0)).setCell ⟨w.heap.size, 5, none⟩ (.int .i64 0)).setCell ⟨w.heap.size, 6, none⟩ (.int .i64 0)).setCell ⟨w.heap.size, 7, none⟩ (.slice none 0 0)).setCell ⟨w.heap.size, 8, none⟩ (.slice none 0 0)).setCell ⟨w.heap.size, 9, none⟩ (.int .i64 0)).setCell ⟨w.heap.size, 10, none⟩ (.int .i64 0)).setCell ⟨w.heap.size, 11, none⟩ (.int .i64 0)).setCell ⟨w.heap.size, 12, none⟩ (.int .i64 0)).setCell ⟨w.heap.size, 13, none⟩ (.bool false)).cell? ⟨w.heap.size, 9, none⟩ = some (.int .i64 0) := by rw [Lib.cell_of_heap hW]; rfl
    have e10 : ((((((((((((((w8.setCell ⟨w.heap.size, 0, none⟩ (.int .i64 0)).setCell ⟨w.heap.size, 1, none⟩ (.int .i64 0)).setCell ⟨w.heap.size, 2, none⟩ (.int .i64 0)).setCell ⟨w.heap.size, 3, none⟩ (.int .i64 0)).setCell ⟨w.heap.size, 4, none⟩ (.int .i64 0)).setCell ⟨w.heap.size, 5, none⟩ (.int .i64 0)).setCell ⟨w.heap.size, 6, none⟩ (.int .i64 0)).setCell ⟨w.heap.size, 7, none⟩ (.slice none 0 0)).setCell ⟨w.heap.size, 8, none⟩ (.slice none 0 0)).setCell ⟨w.heap.size, 9, none⟩ (.int .i64 0)).setCell ⟨w.heap.size, 10, none⟩ (.int .i64 0)).setCell ⟨w.heap.size, 11, none⟩ (.int .i64 0)).setCell ⟨w.heap.size, 12, none⟩ (.int .i64 0)).setCell ⟨w.heap.size, 13, none⟩ (.bool false)).cell? ⟨w.heap.size, 10, none⟩ = some (.int .i64 0) := by rw [Lib.cell_of_heap hW]; rfl
    have e11 : ((((((((((((((w8.setCell ⟨w.heap.size, 0, none⟩ (.int .i64 0)).setCell ⟨w.heap.size, 1, none⟩ (.int .i64 0)).setCell ⟨w.heap.size, 2, none⟩ (.int .i64 0)).setCell ⟨w.heap.size, 3, none⟩ (.int .i64 0)).setCell ⟨w.heap.size, 4, none⟩ (.int .i64 0)).setCell ⟨w.heap.size, 5, none⟩ (.int .i64 0)).setCell ⟨w.heap.size, 6, none⟩ (.int .i64 0)).setCell ⟨w.heap.size, 7, none⟩ (.slice none 0 0)).setCell ⟨w.heap.size, 8, none⟩ (.slice none 0 0)).setCell ⟨w.heap.size, 9, none⟩ (.int .i64 0)).setCell ⟨w.heap.size, 10, none⟩ (.int .i64 0)).setCell ⟨w.heap.size, 11, none⟩ (.int .i64 0)).setCell ⟨w.heap.size, 12, none⟩ (.int .i64 0)).setCell ⟨w.heap.size, 13, none⟩ (.bool false)).cell? ⟨w.heap.size, 11, none⟩ = some (.int .i64 0) := by rw [Lib.cell_of_heap hW]; rfl
    have e12 : ((((((((((((((w8.setCell ⟨w.heap.size, 0, none⟩ (.int .i64 0)).setCell ⟨w.heap.size, 1, none⟩ (.int .i64 0)).setCell ⟨w.heap.size, 2, none⟩ (.int .i64 0)).setCell ⟨w.heap.size, 3, none⟩ (.int .i64 0)).setCell ⟨w.heap.size, 4, none⟩ (.int .i64 0)).setCell ⟨w.heap.size, 5, none⟩ (.int .i64 0)).setCell ⟨w.heap.size, 6, none⟩ (.int .i64 0)).setCell ⟨w.heap.size, 7, none⟩ (.slice none 0 0)).setCell ⟨w.heap.size, 8, none⟩ (.slice none 0 0)).setCell ⟨w.heap.size, 9, none⟩ (.int .i64 0)).setCell ⟨w.heap.size, 10, none⟩ (.int .i64 0)).setCell ⟨w.heap.size, 11, none⟩ (.int .i64 0)).setCell ⟨w.heap.size, 12, none⟩ (.int .i64 0)).setCell ⟨w.heap.size, 13, none⟩ (.bool false)).cell? ⟨w.heap.size, 12, none⟩ = some (.int .i64 0) := by rw [Lib.cell_of_heap hW]; rfl
    have e13 : ((((((((((((((w8.setCell ⟨w.heap.size, 0, none⟩ (.int .i64 0)).setCell ⟨w.heap.size, 1, none⟩ (.int .i64 0)).setCell ⟨w.heap.size, 2, none⟩ (.int .i64 0)).setCell ⟨w.heap.size, 3, none⟩ (.int .i64 0)).setCell ⟨w.heap.size, 4, none⟩ (.int .i64 0)).setCell ⟨w.heap.size, 5, none⟩ (.int .i64 0)).setCell ⟨w.heap.size, 6, none⟩ (.int .i64 0)).setCell ⟨w.heap.size, 7, none⟩ (.slice none 0 0)).setCell ⟨w.heap.size, 8, none⟩ (.slice none 0 0)).setCell ⟨w.heap.size, 9, none⟩ (.int .i64 0)).setCell ⟨w.heap.size, 10, none⟩ (.int .i64 0)).setCell ⟨w.heap.size, 11, none⟩ (.int .i64 0)).setCell ⟨w.heap.size, 12, none⟩ (.int .i64 0)).setCell ⟨w.heap.size, 13, none⟩ (.bool false)).cell? ⟨w.heap.size, 13, none⟩ = some (.bool false) := by rw [Lib.cell_of_heap hW]; rfl
    refine bodyPost_ret (v := .tuple #[.agg #[.int .i64 0, .int .i64 0, .int .i64 0, .int .i64 0, .int .i64 0, .int .i64 0, .int .i64 0, .slice none 0 0, .slice none 0 0, .int .i64 0, .int .i64 0, .int .i64 0, .int .i64 0, .bool false], .int .i64 6]) (by simp [results, Try.results66, go_sem, e0, e1, e2, e3, e4, e5, e6, e7, e8, e9, e10, e11, e12, e13]) rfl ?_
    rw [HDEF.out, if_pos HE.out]
    exact decOut_zero rfl ((((((((((((((hB8.setCell (Nat.le_refl _) _).setCell (Nat.le_refl _) _).setCell (Nat.le_refl _) _).setCell (Nat.le_refl _) _).setCell (Nat.le_refl _) _).setCell (Nat.le_refl _) _).setCell (Nat.le_refl _) _).setCell (Nat.le_refl _) _).setCell (Nat.le_refl _) _).setCell (Nat.le_refl _) _).setCell (Nat.le_refl _) _).setCell (Nat.le_refl _) _).setCell (Nat.le_refl _) _).setCell (Nat.le_refl _) _)
end MsgDecH
section MsgDecI
open Go.RowKit
attribute [local go_sem] bs_size bs_get bs_append bs_extract bs_toList
theorem whole_in (T : List UInt8) (p : Nat) (h : p < T.length) : ((T[p].toNat : Int) == 1) = (decide ((p : Int) < T.length) && decide ((T.getD (p : Int).toNat 0).toNat = 1)) := by
  rw [Bool.eq_iff_iff]
  simp [h]
  omega
theorem whole_out (T : List UInt8) (p : Nat) (h : ¬ p < T.length) : false = (decide ((p : Int) < T.length) && decide ((T.getD (p : Int).toNat 0).toNat = 1)) := by
  have : ¬ (p : Int) < (T.length : Int) := by omega
  simp [this]
set_option maxRecDepth 100000 in
set_option maxHeartbeats 8000000 in
theorem rdecode_rep (l : List UInt8) (w : World) (hs : l.length ≤ 100000) (ho : (openV l).2 = 0) (k1 : ((refI (Crc.body l) 0).1 == 1) = true) (k2 : carB (refI (Crc.body l) 0).1 = false) :
    Calls Try.prog 66 #[.string (bs l)] w fun e w' => DecOut w (decR l) e w' := by
  obtain ⟨ho1, ho2⟩ := openV_ok ho
  have HB := Lib.hid ho2
  clear ho2 ho
  have hbl := body_len l
  have hok := looseM_ok (Crc.body l)
  have hdef : decR l = if encM (looseM (Crc.body l)) ≠ l then (Msg.zero, 6) else (looseM (Crc.body l), 0) := by
    unfold decR
    rw [ho1]
    rfl
  have HDEF := Lib.hid hdef
  clear hdef
  have hrA : (w.alloc (.cells #[.int .i64 0, .int .i64 0, .int .i64 0, .int .i64 0, .int .i64 0, .int .i64 0, .int .i64 0, .slice none 0 0, .slice none 0 0, .int .i64 0, .int .i64 0, .int .i64 0, .int .i64 0, .bool false] 69)).heap[w.heap.size]? = some (.cells #[.int .i64 0, .int .i64 0, .int .i64 0, .int .i64 0, .int .i64 0, .int .i64 0, .int .i64 0, .slice none 0 0, .slice none 0 0, .int .i64 0, .int .i64 0, .int .i64 0, .int .i64 0, .bool false] 69 (0, 0)) := heap_alloc_new _ _
  have hBA : Below w.heap.size w (w.alloc (.cells #[.int .i64 0, .int .i64 0, .int .i64 0, .int .i64 0, .int .i64 0, .int .i64 0, .int .i64 0, .slice none 0 0, .slice none 0 0, .int .i64 0, .int .i64 0, .int .i64 0, .int .i64 0, .bool false] 69)) := (Below.refl _ _).alloc (Nat.le_refl _) _
  have hzA : (w.alloc (.cells #[.int .i64 0, .int .i64 0, .int .i64 0, .int .i64 0, .int .i64 0, .int .i64 0, .int .i64 0, .slice none 0 0, .slice none 0 0, .int .i64 0, .int .i64 0, .int .i64 0, .int .i64 0, .bool false] 69)).heap.size = w.heap.size + 1 := World.size_alloc _ _
  go_enter Try.func66, Try.ntmps66
  go_wp2_with fail
  refine (rOpen_any l _ hs).mono ?_
  rintro e w1 ⟨rfl, hb1⟩
  have hr1 := (hb1.block w.heap.size (by omega)).trans hrA
  have hz1 := hb1.size
  have hB1 := bthru (w := w) hb1 hBA
  generalize hwA : (w.alloc (.cells #[.int .i64 0, .int .i64 0, .int .i64 0, .int .i64 0, .int .i64 0, .int .i64 0, .int .i64 0, .slice none 0 0, .slice none 0 0, .int .i64 0, .int .i64 0, .int .i64 0, .int .i64 0, .bool false] 69)) = wA at *
  clear hrA hBA hb1 hwA
  rw [ho1]
  go_wp2_with fail
  generalize hT : Crc.body l = T at *
  have hrd : RdrR w1.heap.size T 0 (w1.alloc (.cells #[.string (bs T), .int .i64 0] 109)) := ⟨heap_alloc_new _ _, by omega, by omega⟩
  have hw2 := (Below.refl w1.heap.size w1).alloc (Nat.le_refl _) (.cells #[.string (bs T), .int .i64 0] 109)
  have hz2 : (w1.alloc (.cells #[.string (bs T), .int .i64 0] 109)).heap.size = w1.heap.size + 1 := World.size_alloc _ _
  generalize hwb : w1.alloc (.cells #[.string (bs T), .int .i64 0] 109) = wb at *
  generalize hrbn : w1.heap.size = rb at *
  refine (rint_any rb T 0 _ hrd (by omega)).mono ?_
  rintro e u1 ⟨rfl, hq1, ho1⟩
  go_wp2_with fail
  refine (rint_any rb T _ _ hq1 (by omega)).mono ?_
  rintro e u2 ⟨rfl, hq2, ho2⟩
  go_wp2_with fail
  refine (rint_any rb T _ _ hq2 (by omega)).mono ?_
  rintro e u3 ⟨rfl, hq3, ho3⟩
  go_wp2_with fail
  refine (rint_any rb T _ _ hq3 (by omega)).mono ?_
  rintro e u4 ⟨rfl, hq4, ho4⟩
  go_wp2_with fail
  refine (rint_any rb T _ _ hq4 (by omega)).mono ?_
  rintro e u5 ⟨rfl, hq5, ho5⟩
  go_wp2_with fail
  have hO5 : Only rb wb u5 := (((ho1.trans ho2).trans ho3).trans ho4).trans ho5
  have hz5 := hO5.size
  clear ho1 ho2 ho3 ho4 ho5 hq1 hq2 hq3 hq4 hrd
  generalize hx1 : (refI T 0).1 = x1 at *
  generalize hx2 : (refI T (refI T 0).2).1 = x2 at *
  generalize hx3 : (refI T (refI T (refI T 0).2).2).1 = x3 at *
  generalize hx4 : (refI T (refI T (refI T (refI T 0).2).2).2).1 = x4 at *
  generalize hx5 : (refI T (refI T (refI T (refI T (refI T 0).2).2).2).2).1 = x5 at *
  generalize hs5 : (refI T (refI T (refI T (refI T (refI T 0).2).2).2).2).2 = s5 at *
  have HX1 := Lib.hid hx1
  have HX2 := Lib.hid hx2
  have HX3 := Lib.hid hx3
  have HX4 := Lib.hid hx4
  have HX5 := Lib.hid hx5
  have HS5 := Lib.hid hs5
  clear hx1 hx2 hx3 hx4 hx5 hs5
  have hM : (u5.alloc (.cells #[.int .i64 x1, .int .i64 x2, .int .i64 x3, .int .i64 x4, .int .i64 x5, .int .i64 0, .int .i64 0, .slice none 0 0, .slice none 0 0, .int .i64 0, .int .i64 0, .int .i64 0, .int .i64 0, .bool false] 69)).heap[u5.heap.size]? = some (.cells #[.int .i64 x1, .int .i64 x2, .int .i64 x3, .int .i64 x4, .int .i64 x5, .int .i64 0, .int .i64 0, .slice none 0 0, .slice none 0 0, .int .i64 0, .int .i64 0, .int .i64 0, .int .i64 0, .bool false] 69 (0, 0)) := heap_alloc_new _ _
  have hO6 : Only rb wb (u5.alloc (.cells #[.int .i64 x1, .int .i64 x2, .int .i64 x3, .int .i64 x4, .int .i64 x5, .int .i64 0, .int .i64 0, .slice none 0 0, .slice none 0 0, .int .i64 0, .int .i64 0, .int .i64 0, .int .i64 0, .bool false] 69)) := hO5.trans (Only.of_below ((Below.refl _ _).alloc (Nat.le_refl _) _))
  have hr6 : RdrR rb T s5 (u5.alloc (.cells #[.int .i64 x1, .int .i64 x2, .int .i64 x3, .int .i64 x4, .int .i64 x5, .int .i64 0, .int .i64 0, .slice none 0 0, .slice none 0 0, .int .i64 0, .int .i64 0, .int .i64 0, .int .i64 0, .bool false] 69)) := hq5.alloc _
  have hz6 : (u5.alloc (.cells #[.int .i64 x1, .int .i64 x2, .int .i64 x3, .int .i64 x4, .int .i64 x5, .int .i64 0, .int .i64 0, .slice none 0 0, .slice none 0 0, .int .i64 0, .int .i64 0, .int .i64 0, .int .i64 0, .bool false] 69)).heap.size = u5.heap.size + 1 := World.size_alloc _ _
  generalize hw6 : u5.alloc (.cells #[.int .i64 x1, .int .i64 x2, .int .i64 x3, .int .i64 x4, .int .i64 x5, .int .i64 0, .int .i64 0, .slice none 0 0, .slice none 0 0, .int .i64 0, .int .i64 0, .int .i64 0, .int .i64 0, .bool false] 69) = w6 at *
  generalize hmb : u5.heap.size = mb at *
  clear hq5 hO5 hw6 hmb
  have m0 := Lib.cell_of_heap hM 0
  simp only [List.getElem?_toArray, List.getElem?_cons_zero] at m0
  have k3 : (x1 == 2) = false ∧ (x1 == 3) = false := by simpa [carB] using k2
  obtain ⟨k3, k4⟩ := k3
  go_wp2_with fail
  refine (rint_any rb T s5 _ hr6 (by omega)).mono ?_
  rintro e v1 ⟨rfl, hq1, ho1⟩
  go_wp2_with fail
  refine (rint_any rb T _ _ hq1 (by omega)).mono ?_
  rintro e v2 ⟨rfl, hq2, ho2⟩
  go_wp2_with fail
  refine (rint_any rb T _ _ hq2 (by omega)).mono ?_
  rintro e v3 ⟨rfl, hq3, ho3⟩
  go_wp2_with fail
  refine (rint_any rb T _ _ hq3 (by omega)).mono ?_
  rintro e v4 ⟨rfl, hq4, ho4⟩
  have hO7 : Only rb w6 v4 := ((ho1.trans ho2).trans ho3).trans ho4
  have hM7 := (hO7.block mb (heap_lt hM) (by omega)).trans hM
  have hz7 := hO7.size
  clear ho1 ho2 ho3 ho4 hq1 hq2 hq3
  generalize hy1 : (refI T s5).1 = y1 at *
  generalize hy2 : (refI T (refI T s5).2).1 = y2 at *
  generalize hy3 : (refI T (refI T (refI T s5).2).2).1 = y3 at *
  generalize hy4 : (refI T (refI T (refI T (refI T s5).2).2).2).1 = y4 at *
  generalize hs6 : (refI T (refI T (refI T (refI T s5).2).2).2).2 = s6 at *
  have HY1 := Lib.hid hy1
  have HY2 := Lib.hid hy2
  have HY3 := Lib.hid hy3
  have HY4 := Lib.hid hy4
  have HS6 := Lib.hid hs6
  clear hy1 hy2 hy3 hy4 hs6
  have g9 := Lib.cell_of_heap hM7 9
  have gf9 := Lib.frozen_of_heap hM7 9
  have g10 := Lib.cell_of_heap hM7 10
  have gf10 := Lib.frozen_of_heap hM7 10
  have g11 := Lib.cell_of_heap hM7 11
  have gf11 := Lib.frozen_of_heap hM7 11
  have g12 := Lib.cell_of_heap hM7 12
  have gf12 := Lib.frozen_of_heap hM7 12
  have g13 := Lib.cell_of_heap hM7 13
  have gf13 := Lib.frozen_of_heap hM7 13
  simp only [List.getElem?_toArray, List.getElem?_cons_succ, List.getElem?_cons_zero] at g9 g10 g11 g12 g13
  have p1 := Lib.cell_of_heap hq4.1 1
  simp only [List.getElem?_toArray, List.getElem?_cons_succ, List.getElem?_cons_zero] at p1
  obtain ⟨p, hp⟩ := Int.eq_ofNat_of_zero_le hq4.2.1
  have hp2 := hq4.2.2
  subst hp
  have hne : ¬ mb = rb := by omega
  have hne' : ¬ rb = mb := by omega
  by_cases hpl : p < T.length
  · have hpd : (p : Int) < (T.length : Int) := by omega
    go_upto_region 9 with (fail)
    have hM9 : ((((((v4.setCell ⟨mb, 9, none⟩ (.int .i64 y1)).setCell ⟨mb, 10, none⟩ (.int .i64 y2)).setCell ⟨mb, 11, none⟩ (.int .i64 y3)).setCell ⟨mb, 12, none⟩ (.int .i64 y4)).setCell ⟨mb, 13, none⟩ (.bool false)).setCell ⟨mb, 13, none⟩ (.bool ((T[p].toNat : Int) == 1))).heap[mb]? = some (.cells #[.int .i64 x1, .int .i64 x2, .int .i64 x3, .int .i64 x4, .int .i64 x5, .int .i64 0, .int .i64 0, .slice none 0 0, .slice none 0 0, .int .i64 y1, .int .i64 y2, .int .i64 y3, .int .i64 y4, .bool ((T[p].toNat : Int) == 1)] 69 (0, 0)) := by
      have := heap_set _ _ 13 (.bool ((T[p].toNat : Int) == 1)) _ _ _ (heap_set _ _ 13 (.bool false) _ _ _ (heap_set _ _ 12 (.int .i64 y4) _ _ _ (heap_set _ _ 11 (.int .i64 y3) _ _ _ (heap_set _ _ 10 (.int .i64 y2) _ _ _ (heap_set _ _ 9 (.int .i64 y1) _ _ _ hM7)))))
      simpa using this
    have hO9 : Only rb wb ((((((v4.setCell ⟨mb, 9, none⟩ (.int .i64 y1)).setCell ⟨mb, 10, none⟩ (.int .i64 y2)).setCell ⟨mb, 11, none⟩ (.int .i64 y3)).setCell ⟨mb, 12, none⟩ (.int .i64 y4)).setCell ⟨mb, 13, none⟩ (.bool false)).setCell ⟨mb, 13, none⟩ (.bool ((T[p].toNat : Int) == 1))) := (only_new (only_new (only_new (only_new (only_new (only_new (hO6.trans hO7) (by omega) _ _) (by omega) _ _) (by omega) _ _) (by omega) _ _) (by omega) _ _) (by omega) _ _)
    generalize hWz : ((((((v4.setCell ⟨mb, 9, none⟩ (.int .i64 y1)).setCell ⟨mb, 10, none⟩ (.int .i64 y2)).setCell ⟨mb, 11, none⟩ (.int .i64 y3)).setCell ⟨mb, 12, none⟩ (.int .i64 y4)).setCell ⟨mb, 13, none⟩ (.bool false)).setCell ⟨mb, 13, none⟩ (.bool ((T[p].toNat : Int) == 1))) = wz at *
    clear hWz
    have hm : (⟨x1, x2, x3, x4, x5, 0, 0, [], [], y1, y2, y3, y4, ((T[p].toNat : Int) == 1)⟩ : Msg) = looseM T := by
      have hwh := whole_in T p hpl
      simp only [looseM, looseR, HX1.out, HX2.out, HX3.out, HX4.out, HX5.out, HS5.out, k1, k2, HY1.out, HY2.out, HY3.out, HY4.out, HS6.out, if_true, Bool.false_eq_true, if_false, ← hwh]
    have hBw : Below w.heap.size w wz := hO9.below (hB1.trans (hw2.mono (by omega))) (by omega) (by omega)
    obtain ⟨v, v2, base, hRI⟩ : ∃ v v2 base, RInv w mb (looseM T) v v2 base wz := by
      rw [← hm]
      exact ⟨.slice none 0 0, .slice none 0 0, v4.heap.size, hM9, World.ownsRow_nil _ _ _ _, World.ownsRow_nil _ _ _ _, (hO9.block _ (by omega) (by omega)).trans ((hw2.block _ (by omega)).trans hr1), by omega, by omega, hBw⟩
    have hkd : (looseM T).kind = x1 := by rw [← hm]
    have k3' : ((looseM T).kind == 2) = false := by rw [hkd]; exact k3
    have k4' : ((looseM T).kind == 3) = false := by rw [hkd]; exact k4
    clear hm hkd
    generalize looseM T = m at *
    clear hM hM7 hM9 hr1 hB1 hw2 hO6 hO7 hO9 hr6 hBw m0 k1 k2 k3 k4 hq4 p1 g9 g10 g11 g12 g13 gf9 gf10 gf11 gf12 gf13
    obtain ⟨A, c, rfl, hp7⟩ := rdS_own (n := 4) (cells := Seg.cells) (ok := Seg.ok) (hn := fun _ => rfl) hRI.own hok.2.1
    obtain ⟨A', c', rfl, hl7⟩ := rdS_own (n := 2) (cells := Lnk.cells) (ok := Lnk.ok) (hn := fun _ => rfl) hRI.own2 hok.2.2
    have c0 := Lib.cell_of_heap hRI.box 0
    have c1 := Lib.cell_of_heap hRI.box 1
    have c2 := Lib.cell_of_heap hRI.box 2
    have c3 := Lib.cell_of_heap hRI.box 3
    have c4 := Lib.cell_of_heap hRI.box 4
    have c5 := Lib.cell_of_heap hRI.box 5
    have c6 := Lib.cell_of_heap hRI.box 6
    have c7 := Lib.cell_of_heap hRI.box 7
    have c8 := Lib.cell_of_heap hRI.box 8
    have c9 := Lib.cell_of_heap hRI.box 9
    have c10 := Lib.cell_of_heap hRI.box 10
    have c11 := Lib.cell_of_heap hRI.box 11
    have c12 := Lib.cell_of_heap hRI.box 12
    have c13 := Lib.cell_of_heap hRI.box 13
    simp only [List.getElem?_toArray, List.getElem?_cons_succ, List.getElem?_cons_zero] at c0 c1 c2 c3 c4 c5 c6 c7 c8 c9 c10 c11 c12 c13
    go_wp2_with fail
    refine (rEncode_any m A c A' c' _ hok.1 hp7 hl7).mono ?_
    rintro e w8 ⟨rfl, hb8⟩
    have hlow := hRI.lowb
    have hlow2 := hRI.low
    have hres8 := (hb8.block w.heap.size (Nat.lt_of_lt_of_le (heap_lt hRI.res) (Nat.le_refl _))).trans hRI.res
    have hbox8 := (hb8.block mb (heap_lt hRI.box)).trans hRI.box
    have hB8 := bthru (w := w) hb8 hRI.below
    have n1 := own_only hRI.own (Only.of_below (rb := w.heap.size) hb8) hlow2
    have n2 := own_only hRI.own2 (Only.of_below (rb := w.heap.size) hb8) hlow2
    clear c0 c1 c2 c3 c4 c5 c6 c7 c8 c9 c10 c11 c12 c13
    have d0 := Lib.cell_of_heap hres8 0
    have df0 := Lib.frozen_of_heap hres8 0
    have d1 := Lib.cell_of_heap hres8 1
    have df1 := Lib.frozen_of_heap hres8 1
    have d2 := Lib.cell_of_heap hres8 2
    have df2 := Lib.frozen_of_heap hres8 2
    have d3 := Lib.cell_of_heap hres8 3
    have df3 := Lib.frozen_of_heap hres8 3
    have d4 := Lib.cell_of_heap hres8 4
    have df4 := Lib.frozen_of_heap hres8 4
    have d5 := Lib.cell_of_heap hres8 5
    have df5 := Lib.frozen_of_heap hres8 5
    have d6 := Lib.cell_of_heap hres8 6
    have df6 := Lib.frozen_of_heap hres8 6
    have d7 := Lib.cell_of_heap hres8 7
    have df7 := Lib.frozen_of_heap hres8 7
    have d8 := Lib.cell_of_heap hres8 8
    have df8 := Lib.frozen_of_heap hres8 8
    have d9 := Lib.cell_of_heap hres8 9
    have df9 := Lib.frozen_of_heap hres8 9
    have d10 := Lib.cell_of_heap hres8 10
    have df10 := Lib.frozen_of_heap hres8 10
    have d11 := Lib.cell_of_heap hres8 11
    have df11 := Lib.frozen_of_heap hres8 11
    have d12 := Lib.cell_of_heap hres8 12
    have df12 := Lib.frozen_of_heap hres8 12
    have d13 := Lib.cell_of_heap hres8 13
    have df13 := Lib.frozen_of_heap hres8 13
    simp only [List.getElem?_toArray, List.getElem?_cons_succ, List.getElem?_cons_zero] at d0 d1 d2 d3 d4 d5 d6 d7 d8 d9 d10 d11 d12 d13
    by_cases he : encM m = l
    · have he1 : (encM m == l) = true := by simp [he]
      have he2 : (encM m != l) = false := by simp [he]
      have HE := Lib.hid he
      clear he
      have g0 := Lib.cell_of_heap hbox8 0
      have g1 := Lib.cell_of_heap hbox8 1
      have g2 := Lib.cell_of_heap hbox8 2
      have g3 := Lib.cell_of_heap hbox8 3
      have g4 := Lib.cell_of_heap hbox8 4
      have g5 := Lib.cell_of_heap hbox8 5
      have g6 := Lib.cell_of_heap hbox8 6
      have g7 := Lib.cell_of_heap hbox8 7
      have g8 := Lib.cell_of_heap hbox8 8
      have g9 := Lib.cell_of_heap hbox8 9
      have g10 := Lib.cell_of_heap hbox8 10
      have g11 := Lib.cell_of_heap hbox8 11
      have g12 := Lib.cell_of_heap hbox8 12
      have g13 := Lib.cell_of_heap hbox8 13
      simp only [List.getElem?_toArray, List.getElem?_cons_succ, List.getElem?_cons_zero] at g0 g1 g2 g3 g4 g5 g6 g7 g8 g9 g10 g11 g12 g13
      go_wp2_with fail
      have hW : ((((((((((((((w8.setCell ⟨w.heap.size, 0, none⟩ (.int .i64 m.kind)).setCell ⟨w.heap.size, 1, none⟩ (.int .i64 m.fro)).setCell ⟨w.heap.size, 2, none⟩ (.int .i64 m.to)).setCell ⟨w.heap.size, 3, none⟩ (.int .i64 m.seq)).setCell ⟨w.heap.size, 4, none⟩ (.int .i64 m.time)).setCell ⟨w.heap.size, 5, none⟩ (.int .i64 m.aseq)).setCell ⟨w.heap.size, 6, none⟩ (.int .i64 m.aend)).setCell ⟨w.heap.size, 7, none⟩ (.slice A m.prof.length c)).setCell ⟨w.heap.size, 8, none⟩ (.slice A' m.links.length c')).setCell ⟨w.heap.size, 9, none⟩ (.int .i64 m.min)).setCell ⟨w.heap.size, 10, none⟩ (.int .i64 m.speed)).setCell ⟨w.heap.size, 11, none⟩ (.int .i64 m.mode)).setCell ⟨w.heap.size, 12, none⟩ (.int .i64 m.acc)).setCell ⟨w.heap.size, 13, none⟩ (.bool m.whole)).heap[w.heap.size]? = some (.cells #[.int .i64 m.kind, .int .i64 m.fro, .int .i64 m.to, .int .i64 m.seq, .int .i64 m.time, .int .i64 m.aseq, .int .i64 m.aend, .slice A m.prof.length c, .slice A' m.links.length c', .int .i64 m.min, .int .i64 m.speed, .int .i64 m.mode, .int .i64 m.acc, .bool m.whole] 69 (0, 0)) := by
        have := (heap_set _ _ 13 (.bool m.whole) _ _ _ (heap_set _ _ 12 (.int .i64 m.acc) _ _ _ (heap_set _ _ 11 (.int .i64 m.mode) _ _ _ (heap_set _ _ 10 (.int .i64 m.speed) _ _ _ (heap_set _ _ 9 (.int .i64 m.min) _ _ _ (heap_set _ _ 8 (.slice A' m.links.length c') _ _ _ (heap_set _ _ 7 (.slice A m.prof.length c) _ _ _ (heap_set _ _ 6 (.int .i64 m.aend) _ _ _ (heap_set _ _ 5 (.int .i64 m.aseq) _ _ _ (heap_set _ _ 4 (.int .i64 m.time) _ _ _ (heap_set _ _ 3 (.int .i64 m.seq) _ _ _ (heap_set _ _ 2 (.int .i64 m.to) _ _ _ (heap_set _ _ 1 (.int .i64 m.fro) _ _ _ (heap_set _ _ 0 (.int .i64 m.kind) _ _ _ hres8))))))))))))))
        simpa using this
      have e0 : ((((((((((((((w8.setCell ⟨w.heap.size, 0, none⟩ (.int .i64 m.kind)).setCell ⟨w.heap.size, 1, none⟩ (.int .i64 m.fro)).setCell ⟨w.heap.size, 2, none⟩ (.int .i64 m.to)).setCell ⟨w.heap.size, 3, none⟩ (.int .i64 m.seq)).setCell ⟨w.heap.size, 4, none⟩ (.int .i64 m.time)).setCell ⟨w.heap.size, 5, none⟩ (.int .i64 m.aseq)).setCell ⟨w.heap.size, 6, none⟩ (.int .i64 m.aend)).setCell ⟨w.heap.size, 7, none⟩ (.slice A m.prof.length c)).setCell ⟨w.heap.size, 8, none⟩ (.slice A' m.links.length c')).setCell ⟨w.heap.size, 9, none⟩ (.int .i64 m.min)).setCell ⟨w.heap.size, 10, none⟩ (.int .i64 m.speed)).setCell ⟨w.heap.size, 11, none⟩ (.int .i64 m.mode)).setCell ⟨w.heap.size, 12, none⟩ (.int .i64 m.acc)).setCell ⟨w.heap.size, 13, none⟩ (.bool m.whole)).cell? ⟨w.heap.size, 0, none⟩ = some (.int .i64 m.kind) := by rw [Lib.cell_of_heap hW]; rfl
      have e1 : ((((((((((((((w8.setCell ⟨w.heap.size, 0, none⟩ (.int .i64 m.kind)).setCell ⟨w.heap.size, 1, none⟩ (.int .i64 m.fro)).setCell ⟨w.heap.size, 2, none⟩ (.int .i64 m.to)).setCell ⟨w.heap.size, 3, none⟩ (.int .i64 m.seq)).setCell ⟨w.heap.size, 4, none⟩ (.int .i64 m.time)).setCell ⟨w.heap.size, 5, none⟩ (.int .i64 m.aseq)).setCell ⟨w.heap.size, 6, none⟩ (.int .i64 m.aend)).setCell ⟨w.heap.size, 7, none⟩ (.slice A m.prof.length c)).setCell ⟨w.heap.size, 8, none⟩ (.slice A' m.links.length c')).setCell ⟨w.heap.size, 9, none⟩ (.int .i64 m.min)).setCell ⟨w.heap.size, 10, none⟩ (.int .i64 m.speed)).setCell ⟨w.heap.size, 11, none⟩ (.int .i64 m.mode)).setCell ⟨w.heap.size, 12, none⟩ (.int .i64 m.acc)).setCell ⟨w.heap.size, 13, none⟩ (.bool m.whole)).cell? ⟨w.heap.size, 1, none⟩ = some (.int .i64 m.fro) := by rw [Lib.cell_of_heap hW]; rfl
      have e2 : ((((((((((((((w8.setCell ⟨w.heap.size, 0, none⟩ (.int .i64 m.kind)).setCell ⟨w.heap.size, 1, none⟩ (.int .i64 m.fro)).setCell ⟨w.heap.size, 2, none⟩ (.int .i64 m.to)).setCell ⟨w.heap.size, 3, none⟩ (.int .i64 m.seq)).setCell ⟨w.heap.size, 4, none⟩ (.int .i64 m.time)).setCell ⟨w.heap.size, 5, none⟩ (.int .i64 m.aseq)).setCell ⟨w.heap.size, 6, none⟩ (.int .i64 m.aend)).setCell ⟨w.heap.size, 7, none⟩ (.slice A m.prof.length c)).setCell ⟨w.heap.size, 8, none⟩ (.slice A' m.links.length c')).setCell ⟨w.heap.size, 9, none⟩ (.int .i64 m.min)).setCell ⟨w.heap.size, 10, none⟩ (.int .i64 m.speed)).setCell ⟨w.heap.size, 11, none⟩ (.int .i64 m.mode)).setCell ⟨w.heap.size, 12, none⟩ (.int .i64 m.acc)).setCell ⟨w.heap.size, 13, none⟩ (.bool m.whole)).cell? ⟨w.heap.size, 2, none⟩ = some (.int .i64 m.to) := by rw [Lib.cell_of_heap hW]; rfl
      have e3 : ((((((((((((((w8.setCell ⟨w.heap.size, 0, none⟩ (.int .i64 m.kind)).setCell ⟨w.heap.size, 1, none⟩ (.int .i64 m.fro)).setCell ⟨w.heap.size, 2, none⟩ (.int .i64 m.to)).setCell ⟨w.heap.size, 3, none⟩ (.int .i64 m.seq)).setCell ⟨w.heap.size, 4, none⟩ (.int .i64 m.time)).setCell ⟨w.heap.size, 5, none⟩ (.int .i64 m.aseq)).setCell ⟨w.heap.size, 6, none⟩ (.int .i64 m.aend)).setCell ⟨w.heap.size, 7, none⟩ (.slice A m.prof.length c)).setCell ⟨w.heap.size, 8, none⟩ (.slice A' m.links.length c')).setCell ⟨w.heap.size, 9, none⟩ (.int .i64 m.min)).setCell ⟨w.heap.size, 10, none⟩ (.int .i64 m.speed)).setCell ⟨w.heap.size, 11, none⟩ (.int .i64 m.mode)).setCell ⟨w.heap.size, 12, none⟩ (.int .i64 m.acc)).setCell ⟨w.heap.size, 13, none⟩ (.bool m.whole)).cell? ⟨w.heap.size, 3, none⟩ = some (.int .i64 m.seq) := by rw [Lib.cell_of_heap hW]; rfl
      have e4 : ((((((((((((((w8.setCell ⟨w.heap.size, 0, none⟩ (.int .i64 m.kind)).setCell ⟨w.heap.size, 1, none⟩ (.int .i64 m.fro)).setCell ⟨w.heap.size, 2, none⟩ (.int .i64 m.to)).setCell ⟨w.heap.size, 3, none⟩ (.int .i64 m.seq)).setCell ⟨w.heap.size, 4, none⟩ (.int .i64 m.time)).setCell ⟨w.heap.size, 5, none⟩ (.int .i64 m.aseq)).setCell ⟨w.heap.size, 6, none⟩ (.int .i64 m.aend)).setCell ⟨w.heap.size, 7, none⟩ (.slice A m.prof.length c)).setCell ⟨w.heap.size, 8, none⟩ (.slice A' m.links.length c')).setCell ⟨w.heap.size, 9, none⟩ (.int .i64 m.min)).setCell ⟨w.heap.size, 10, none⟩ (.int .i64 m.speed)).setCell ⟨w.heap.size, 11, none⟩ (.int .i64 m.mode)).setCell ⟨w.heap.size, 12, none⟩ (.int .i64 m.acc)).setCell ⟨w.heap.size, 13, none⟩ (.bool m.whole)).cell? ⟨w.heap.size, 4, none⟩ = some (.int .i64 m.time) := by rw [Lib.cell_of_heap hW]; rfl
      have e5 : ((((((((((((((w8.setCell ⟨w.heap.size, 0, none⟩ (.int .i64 m.kind)).setCell ⟨w.heap.size, 1, none⟩ (.int .i64 m.fro)).setCell ⟨w.heap.size, 2, none⟩ (.int .i64 m.to)).setCell ⟨w.heap.size, 3, none⟩ (.int .i64 m.seq)).setCell ⟨w.heap.size, 4, none⟩ (.int .i64 m.time)).setCell ⟨w.heap.size, 5, none⟩ (.int .i64 m.aseq)).setCell ⟨w.heap.size, 6, none⟩ (.int .i64 m.aend)).setCell ⟨w.heap.size, 7, none⟩ (.slice A m.prof.length c)).setCell ⟨w.heap.size, 8, none⟩ (.slice A' m.links.length c')).setCell ⟨w.heap.size, 9, none⟩ (.int .i64 m.min)).setCell ⟨w.heap.size, 10, none⟩ (.int .i64 m.speed)).setCell ⟨w.heap.size, 11, none⟩ (.int .i64 m.mode)).setCell ⟨w.heap.size, 12, none⟩ (.int .i64 m.acc)).setCell ⟨w.heap.size, 13, none⟩ (.bool m.whole)).cell? ⟨w.heap.size, 5, none⟩ = some (.int .i64 m.aseq) := by rw [Lib.cell_of_heap hW]; rfl
      have e6 : ((((((((((((((w8.setCell ⟨w.heap.size, 0, none⟩ (.int .i64 m.kind)).setCell ⟨w.heap.size, 1, none⟩ (.int .i64 m.fro)).setCell ⟨w.heap.size, 2, none⟩ (.int .i64 m.to)).setCell ⟨w.heap.size, 3, none⟩ (.int .i64 m.seq)).setCell ⟨w.heap.size, 4, none⟩ (.int .i64 m.time)).setCell ⟨w.heap.size, 5, none⟩ (.int .i64 m.aseq)).setCell ⟨w.heap.size, 6, none⟩ (.int .i64 m.aend)).setCell ⟨w.heap.size, 7, none⟩ (.slice A m.prof.length c)).setCell ⟨w.heap.size, 8, none⟩ (.slice A' m.links.length c')).setCell ⟨w.heap.size, 9, none⟩ (.int .i64 m.min)).setCell ⟨w.heap.size, 10, none⟩ (.int .i64 m.speed)).setCell ⟨w.heap.size, 11, none⟩ (.int .i64 m.mode)).setCell ⟨w.heap.size, 12, none⟩ (.int .i64 m.acc)).setCell ⟨w.heap.size, 13, none⟩ (.bool m.whole)).cell? ⟨w.heap.size, 6, none⟩ = some (.int .i64 m.aend) := by rw [Lib.cell_of_heap hW]; rfl
      have e7 : ((((((((((((((w8.setCell ⟨w.heap.size, 0, none⟩ (.int .i64 m.kind)).setCell ⟨w.heap.size, 1, none⟩ (.int .i64 m.fro)).setCell ⟨w.heap.size, 2, none⟩ (.int .i64 m.to)).setCell ⟨w.heap.size, 3, none⟩ (.int .i64 m.seq)).setCell ⟨w.heap.size, 4, none⟩ (.int .i64 m.time)).setCell ⟨w.heap.size, 5, none⟩ (.int .i64 m.aseq)).setCell ⟨w.heap.size, 6, none⟩ (.int .i64 m.aend)).setCell ⟨w.heap.size, 7, none⟩ (.slice A m.prof.length c)).setCell ⟨w.heap.size, 8, none⟩ (.slice A' m.links.length c')).setCell ⟨w.heap.size, 9, none⟩ (.int .i64 m.min)).setCell ⟨w.heap.size, 10, none⟩ (.int .i64 m.speed)).setCell ⟨w.heap.size, 11, none⟩ (.int .i64 m.mode)).setCell ⟨w.heap.size, 12, none⟩ (.int .i64 m.acc)).setCell ⟨w.heap.size, 13, none⟩ (.bool m.whole)).cell? ⟨w.heap.size, 7, none⟩ = some (.slice A m.prof.length c) := by rw [Lib.cell_of_heap hW]; rfl
      have e8 : ((((((((((((((w8.setCell ⟨w.heap.size, 0, none⟩ (.int .i64 m.kind)).setCell ⟨w.heap.size, 1, none⟩ (.int .i64 m.fro)).setCell ⟨w.heap.size, 2, none⟩ (.int .i64 m.to)).setCell ⟨w.heap.size, 3, none⟩ (.int .i64 m.seq)).setCell ⟨w.heap.size, 4, none⟩ (.int .i64 m.time)).setCell ⟨w.heap.size, 5, none⟩ (.int .i64 m.aseq)).setCell ⟨w.heap.size, 6, none⟩ (.int .i64 m.aend)).setCell ⟨w.heap.size, 7, none⟩ (.slice A m.prof.length c)).setCell ⟨w.heap.size, 8, none⟩ (.slice A' m.links.length c')).setCell ⟨w.heap.size, 9, none⟩ (.int .i64 m.min)).setCell ⟨w.heap.size, 10, none⟩ (.int .i64 m.speed)).setCell ⟨w.heap.size, 11, none⟩ (.int .i64 m.mode)).setCell ⟨w.heap.size, 12, none⟩ (.int .i64 m.acc)).setCell ⟨w.heap.size, 13, none⟩ (.bool m.whole)).cell? ⟨w.heap.size, 8, none⟩ = some (.slice A' m.links.length c') := by rw [Lib.cell_of_heap hW]; rfl
      have e9 : ((((((((((((((w8.setCell ⟨w.heap.size, 0, none⟩ (.int .i64 m.kind)).setCell ⟨w.heap.size, 1, none⟩ (.int .i64 m.fro)).setCell ⟨w.heap.size, 2, none⟩ (.int .i64 m.to)).setCell ⟨w.heap.size, 3, none⟩ (.int .i64 m.seq)).setCell ⟨w.heap.size, 4, none⟩ (.int .i64 m.time)).setCell ⟨w.heap.size, 5, none⟩ (.int .i64 m.aseq)).setCell ⟨w.heap.size, 6, none⟩ (.int .i64 m.aend)).setCell ⟨w.heap.size, 7, none⟩ (.slice A m.prof.length c)).setCell ⟨w.heap.size, 8, none⟩ (.slice A' m.links.length c')).setCell ⟨w.heap.size, 9, none⟩ (.int .i64 m.min)).setCell ⟨w.heap.size, 10, none⟩ (.int .i64 m.speed)).setCell ⟨w.heap.size, 11, none⟩ (.int .i64 m.mode)).setCell ⟨w.heap.size, 12, none⟩ (.int .i64 m.acc)).setCell ⟨w.heap.size, 13, none⟩ (.bool m.whole)).cell? ⟨w.heap.size, 9, none⟩ = some (.int .i64 m.min) := by rw [Lib.cell_of_heap hW]; rfl
      have e10 : ((((((((((((((w8.setCell ⟨w.heap.size, 0, none⟩ (.int .i64 m.kind)).setCell ⟨w.heap.size, 1, none⟩ (.int .i64 m.fro)).setCell ⟨w.heap.size, 2, none⟩ (.int .i64 m.to)).setCell ⟨w.heap.size, 3, none⟩ (.int .i64 m.seq)).setCell ⟨w.heap.size, 4, none⟩ (.int .i64 m.time)).setCell ⟨w.heap.size, 5, none⟩ (.int .i64 m.aseq)).setCell ⟨w.heap.size, 6, none⟩ (.int .i64 m.aend)).setCell ⟨w.heap.size, 7, none⟩ (.slice A m.prof.length c)).setCell ⟨w.heap.size, 8, none⟩ (.slice A' m.links.length c')).setCell ⟨w.heap.size, 9, none⟩ (.int .i64 m.min)).setCell ⟨w.heap.size, 10, none⟩ (.int .i64 m.speed)).setCell ⟨w.heap.size, 11, none⟩ (.int .i64 m.mode)).setCell ⟨w.heap.size, 12, none⟩ (.int .i64 m.acc)).setCell ⟨w.heap.size, 13, none⟩ (.bool m.whole)).cell? ⟨w.heap.size, 10, none⟩ = some (.int .i64 m.speed) := by rw [Lib.cell_of_heap hW]; rfl
      have e11 : ((((((((((((((w8.setCell ⟨w.heap.size, 0, none⟩ (.int .i64 m.kind)).setCell ⟨w.heap.size, 1, none⟩ (.int .i64 m.fro)).setCell ⟨w.heap.size, 2, none⟩ (.int .i64 m.to)).setCell ⟨w.heap.size, 3, none⟩ (.int .i64 m.seq)).setCell ⟨w.heap.size, 4, none⟩ (.int .i64 m.time)).setCell ⟨w.heap.size, 5, none⟩ (.int .i64 m.aseq)).setCell ⟨w.heap.size, 6, none⟩ (.int .i64 m.aend)).setCell ⟨w.heap.size, 7, none⟩ (.slice A m.prof.length c)).setCell ⟨w.heap.size, 8, none⟩ (.slice A' m.links.length c')).setCell ⟨w.heap.size, 9, none⟩ (.int .i64 m.min)).setCell ⟨w.heap.size, 10, none⟩ (.int .i64 m.speed)).setCell ⟨w.heap.size, 11, none⟩ (.int .i64 m.mode)).setCell ⟨w.heap.size, 12, none⟩ (.int .i64 m.acc)).setCell ⟨w.heap.size, 13, none⟩ (.bool m.whole)).cell? ⟨w.heap.size, 11, none⟩ = some (.int .i64 m.mode) := by rw [Lib.cell_of_heap hW]; rfl
      have e12 : ((((((((((((((w8.setCell ⟨w.heap.size, 0, none⟩ (.int .i64 m.kind)).setCell ⟨w.heap.size, 1, none⟩ (.int .i64 m.fro)).setCell ⟨w.heap.size, 2, none⟩ (.int .i64 m.to)).setCell ⟨w.heap.size, 3, none⟩ (.int .i64 m.seq)).setCell ⟨w.heap.size, 4, none⟩ (.int .i64 m.time)).setCell ⟨w.heap.size, 5, none⟩ (.int .i64 m.aseq)).setCell ⟨w.heap.size, 6, none⟩ (.int .i64 m.aend)).setCell ⟨w.heap.size, 7, none⟩ (.slice A m.prof.length c)).setCell ⟨w.heap.size, 8, none⟩ (.slice A' m.links.length c')).setCell ⟨w.heap.size, 9, none⟩ (.int .i64 m.min)).setCell ⟨w.heap.size, 10, none⟩ (.int .i64 m.speed)).setCell ⟨w.heap.size, 11, none⟩ (.int .i64 m.mode)).setCell ⟨w.heap.size, 12, none⟩ (.int .i64 m.acc)).setCell ⟨w.heap.size, 13, none⟩ (.bool m.whole)).cell? ⟨w.heap.size, 12, none⟩ = some (.int .i64 m.acc) := by rw [Lib.cell_of_heap hW]; rfl
      have e13 : ((((((((((((((w8.setCell ⟨w.heap.size, 0, none⟩ (.int .i64 m.kind)).setCell ⟨w.heap.size, 1, none⟩ (.int .i64 m.fro)).setCell ⟨w.heap.size, 2, none⟩ (.int .i64 m.to)).setCell ⟨w.heap.size, 3, none⟩ (.int .i64 m.seq)).setCell ⟨w.heap.size, 4, none⟩ (.int .i64 m.time)).setCell ⟨w.heap.size, 5, none⟩ (.int .i64 m.aseq)).setCell ⟨w.heap.size, 6, none⟩ (.int .i64 m.aend)).setCell ⟨w.heap.size, 7, none⟩ (.slice A m.prof.length c)).setCell ⟨w.heap.size, 8, none⟩ (.slice A' m.links.length c')).setCell ⟨w.heap.size, 9, none⟩ (.int .i64 m.min)).setCell ⟨w.heap.size, 10, none⟩ (.int .i64 m.speed)).setCell ⟨w.heap.size, 11, none⟩ (.int .i64 m.mode)).setCell ⟨w.heap.size, 12, none⟩ (.int .i64 m.acc)).setCell ⟨w.heap.size, 13, none⟩ (.bool m.whole)).cell? ⟨w.heap.size, 13, none⟩ = some (.bool m.whole) := by rw [Lib.cell_of_heap hW]; rfl
      refine bodyPost_ret (v := .tuple #[.agg #[.int .i64 m.kind, .int .i64 m.fro, .int .i64 m.to, .int .i64 m.seq, .int .i64 m.time, .int .i64 m.aseq, .int .i64 m.aend, .slice A m.prof.length c, .slice A' m.links.length c', .int .i64 m.min, .int .i64 m.speed, .int .i64 m.mode, .int .i64 m.acc, .bool m.whole], .int .i64 0]) (by simp [results, Try.results66, go_sem, e0, e1, e2, e3, e4, e5, e6, e7, e8, e9, e10, e11, e12, e13]) rfl ?_
      rw [HDEF.out, if_neg (by rw [HE.out]; simp)]
      have on1 : ((((((((((((((w8.setCell ⟨w.heap.size, 0, none⟩ (.int .i64 m.kind)).setCell ⟨w.heap.size, 1, none⟩ (.int .i64 m.fro)).setCell ⟨w.heap.size, 2, none⟩ (.int .i64 m.to)).setCell ⟨w.heap.size, 3, none⟩ (.int .i64 m.seq)).setCell ⟨w.heap.size, 4, none⟩ (.int .i64 m.time)).setCell ⟨w.heap.size, 5, none⟩ (.int .i64 m.aseq)).setCell ⟨w.heap.size, 6, none⟩ (.int .i64 m.aend)).setCell ⟨w.heap.size, 7, none⟩ (.slice A m.prof.length c)).setCell ⟨w.heap.size, 8, none⟩ (.slice A' m.links.length c')).setCell ⟨w.heap.size, 9, none⟩ (.int .i64 m.min)).setCell ⟨w.heap.size, 10, none⟩ (.int .i64 m.speed)).setCell ⟨w.heap.size, 11, none⟩ (.int .i64 m.mode)).setCell ⟨w.heap.size, 12, none⟩ (.int .i64 m.acc)).setCell ⟨w.heap.size, 13, none⟩ (.bool m.whole)).ownsRow base 100 4 (.slice A m.prof.length c) m.prof.length (m.prof.flatMap Seg.cells) := (own_set (own_set (own_set (own_set (own_set (own_set (own_set (own_set (own_set (own_set (own_set (own_set (own_set (own_set n1 _ _ _ (by omega)) _ _ _ (by omega)) _ _ _ (by omega)) _ _ _ (by omega)) _ _ _ (by omega)) _ _ _ (by omega)) _ _ _ (by omega)) _ _ _ (by omega)) _ _ _ (by omega)) _ _ _ (by omega)) _ _ _ (by omega)) _ _ _ (by omega)) _ _ _ (by omega)) _ _ _ (by omega))
      have on2 : ((((((((((((((w8.setCell ⟨w.heap.size, 0, none⟩ (.int .i64 m.kind)).setCell ⟨w.heap.size, 1, none⟩ (.int .i64 m.fro)).setCell ⟨w.heap.size, 2, none⟩ (.int .i64 m.to)).setCell ⟨w.heap.size, 3, none⟩ (.int .i64 m.seq)).setCell ⟨w.heap.size, 4, none⟩ (.int .i64 m.time)).setCell ⟨w.heap.size, 5, none⟩ (.int .i64 m.aseq)).setCell ⟨w.heap.size, 6, none⟩ (.int .i64 m.aend)).setCell ⟨w.heap.size, 7, none⟩ (.slice A m.prof.length c)).setCell ⟨w.heap.size, 8, none⟩ (.slice A' m.links.length c')).setCell ⟨w.heap.size, 9, none⟩ (.int .i64 m.min)).setCell ⟨w.heap.size, 10, none⟩ (.int .i64 m.speed)).setCell ⟨w.heap.size, 11, none⟩ (.int .i64 m.mode)).setCell ⟨w.heap.size, 12, none⟩ (.int .i64 m.acc)).setCell ⟨w.heap.size, 13, none⟩ (.bool m.whole)).ownsRow base 77 2 (.slice A' m.links.length c') m.links.length (m.links.flatMap Lnk.cells) := (own_set (own_set (own_set (own_set (own_set (own_set (own_set (own_set (own_set (own_set (own_set (own_set (own_set (own_set n2 _ _ _ (by omega)) _ _ _ (by omega)) _ _ _ (by omega)) _ _ _ (by omega)) _ _ _ (by omega)) _ _ _ (by omega)) _ _ _ (by omega)) _ _ _ (by omega)) _ _ _ (by omega)) _ _ _ (by omega)) _ _ _ (by omega)) _ _ _ (by omega)) _ _ _ (by omega)) _ _ _ (by omega))
      obtain ⟨A1, k1', h1, r1⟩ := rdS_own (n := 4) (cells := Seg.cells) (ok := Seg.ok) (hn := fun _ => rfl) on1 hok.2.1
      obtain ⟨A2, k2', h2, r2⟩ := rdS_own (n := 2) (cells := Lnk.cells) (ok := Lnk.ok) (hn := fun _ => rfl) on2 hok.2.2
      simp only [Value.slice.injEq] at h1 h2
      obtain ⟨rfl, -, rfl⟩ := h1
      obtain ⟨rfl, -, rfl⟩ := h2
      exact ⟨_, _, _, _, rfl, r1, r2, ((((((((((((((hB8.setCell (Nat.le_refl _) _).setCell (Nat.le_refl _) _).setCell (Nat.le_refl _) _).setCell (Nat.le_refl _) _).setCell (Nat.le_refl _) _).setCell (Nat.le_refl _) _).setCell (Nat.le_refl _) _).setCell (Nat.le_refl _) _).setCell (Nat.le_refl _) _).setCell (Nat.le_refl _) _).setCell (Nat.le_refl _) _).setCell (Nat.le_refl _) _).setCell (Nat.le_refl _) _).setCell (Nat.le_refl _) _)⟩
    · have he1 : (encM m == l) = false := by simp [he]
      have he2 : (encM m != l) = true := by simp [he]
      have HE := Lib.hid he
      clear he
      go_wp2_with fail
      have hW : ((((((((((((((w8.setCell ⟨w.heap.size, 0, none⟩ (.int .i64 0)).setCell ⟨w.heap.size, 1, none⟩ (.int .i64 0)).setCell ⟨w.heap.size, 2, none⟩ (.int .i64 0)).setCell ⟨w.heap.size, 3, none⟩ (.int .i64 0)).setCell ⟨w.heap.size, 4, none⟩ (.int .i64 0)).setCell ⟨w.heap.size, 5, none⟩ (.int .i64 0)).setCell ⟨w.heap.size, 6, none⟩ (.int .i64 0)).setCell ⟨w.heap.size, 7, none⟩ (.slice none 0 0)).setCell ⟨w.heap.size, 8, none⟩ (.slice none 0 0)).setCell ⟨w.heap.size, 9, none⟩ (.int .i64 0)).setCell ⟨w.heap.size, 10, none⟩ (.int .i64 0)).setCell ⟨w.heap.size, 11, none⟩ (.int .i64 0)).setCell ⟨w.heap.size, 12, none⟩ (.int .i64 0)).setCell ⟨w.heap.size, 13, none⟩ (.bool false)).heap[w.heap.size]? = some (.cells #[.int .i64 0, .int .i64 0, .int .i64 0, .int .i64 0, .int .i64 0, .int .i64 0, .int .i64 0, .slice none 0 0, .slice none 0 0, .int .i64 0, .int .i64 0, .int .i64 0, .int .i64 0, .bool false] 69 (0, 0)) := by
        have := (heap_set _ _ 13 (.bool false) _ _ _ (heap_set _ _ 12 (.int .i64 0) _ _ _ (heap_set _ _ 11 (.int .i64 0) _ _ _ (heap_set _ _ 10 (.int .i64 0) _ _ _ (heap_set _ _ 9 (.int .i64 0) _ _ _ (heap_set _ _ 8 (.slice none 0 0) _ _ _ (heap_set _ _ 7 (.slice none 0 0) _ _ _ (heap_set _ _ 6 (.int .i64 0) _ _ _ (heap_set _ _ 5 (.int .i64 0) _ _ _ (heap_set _ _ 4 (.int .i64 0) _ _ _ (heap_set _ _ 3 (.int .i64 0) _ _ _ (heap_set _ _ 2 (.int .i64 0) _ _ _ (heap_set _ _ 1 (.int .i64 0) _ _ _ (heap_set _ _ 0 (.int .i64 0) _ _ _ hres8))))))))))))))
        simpa using this
      have e0 : ((((((((((((((w8.setCell ⟨w.heap.size, 0, none⟩ (.int .i64 0)).setCell ⟨w.heap.size, 1, none⟩ (.int .i64 0)).setCell ⟨w.heap.size, 2, none⟩ (.int .i64 0)).setCell ⟨w.heap.size, 3, none⟩ (.int .i64 0)).setCell ⟨w.heap.size, 4, none⟩ (.int .i64 0)).setCell ⟨w.heap.size, 5, none⟩ (.int .i64 0)).setCell ⟨w.heap.size, 6, none⟩ (.int .i64 0)).setCell ⟨w.heap.size, 7, none⟩ (.slice none 0 0)).setCell ⟨w.heap.size, 8, none⟩ (.slice none 0 0)).setCell ⟨w.heap.size, 9, none⟩ (.int .i64 0)).setCell ⟨w.heap.size, 10, none⟩ (.int .i64 0)).setCell ⟨w.heap.size, 11, none⟩ (.int .i64 0)).setCell ⟨w.heap.size, 12, none⟩ (.int .i64 0)).setCell ⟨w.heap.size, 13, none⟩ (.bool false)).cell? ⟨w.heap.size, 0, none⟩ = some (.int .i64 0) := by rw [Lib.cell_of_heap hW]; rfl
      have e1 : ((((((((((((((w8.setCell ⟨w.heap.size, 0, none⟩ (.int .i64 0)).setCell ⟨w.heap.size, 1, none⟩ (.int .i64 0)).setCell ⟨w.heap.size, 2, none⟩ (.int .i64 0)).setCell ⟨w.heap.size, 3, none⟩ (.int .i64 0)).setCell ⟨w.heap.size, 4, none⟩ (.int .i64 0)).setCell ⟨w.heap.size, 5, none⟩ (.int .i64 0)).setCell ⟨w.heap.size, 6, none⟩ (.int .i64 0)).setCell ⟨w.heap.size, 7, none⟩ (.slice none 0 0)).setCell ⟨w.heap.size, 8, none⟩ (.slice none 0 0)).setCell ⟨w.heap.size, 9, none⟩ (.int .i64 0)).setCell ⟨w.heap.size, 10, none⟩ (.int .i64 0)).setCell ⟨w.heap.size, 11, none⟩ (.int .i64 0)).setCell ⟨w.heap.size, 12, none⟩ (.int .i64 0)).setCell ⟨w.heap.size, 13, none⟩ (.bool false)).cell? ⟨w.heap.size, 1, none⟩ = some (.int .i64 0) := by rw [Lib.cell_of_heap hW]; rfl
      have e2 : ((((((((((((((w8.setCell ⟨w.heap.size, 0, none⟩ (.int .i64 0)).setCell ⟨w.heap.size, 1, none⟩ (.int .i64 0)).setCell ⟨w.heap.size, 2, none⟩ (.int .i64 0)).setCell ⟨w.heap.size, 3, none⟩ (.int .i64 0)).setCell ⟨w.heap.size, 4, none⟩ (.int .i64 0)).setCell ⟨w.heap.size, 5, none⟩ (.int .i64 0)).setCell ⟨w.heap.size, 6, none⟩ (.int .i64 0)).setCell ⟨w.heap.size, 7, none⟩ (.slice none 0 0)).setCell ⟨w.heap.size, 8, none⟩ (.slice none 0 0)).setCell ⟨w.heap.size, 9, none⟩ (.int .i64 0)).setCell ⟨w.heap.size, 10, none⟩ (.int .i64 0)).setCell ⟨w.heap.size, 11, none⟩ (.int .i64 0)).setCell ⟨w.heap.size, 12, none⟩ (.int .i64 0)).setCell ⟨w.heap.size, 13, none⟩ (.bool false)).cell? ⟨w.heap.size, 2, none⟩ = some (.int .i64 0) := by rw [Lib.cell_of_heap hW]; rfl
      have e3 : ((((((((((((((w8.setCell ⟨w.heap.size, 0, none⟩ (.int .i64 0)).setCell ⟨w.heap.size, 1, none⟩ (.int .i64 0)).setCell ⟨w.heap.size, 2, none⟩ (.int .i64 0)).setCell ⟨w.heap.size, 3, none⟩ (.int .i64 0)).setCell ⟨w.heap.size, 4, none⟩ (.int .i64 0)).setCell ⟨w.heap.size, 5, none⟩ (.int .i64 0)).setCell ⟨w.heap.size, 6, none⟩ (.int .i64 0)).setCell ⟨w.heap.size, 7, none⟩ (.slice none 0 0)).setCell ⟨w.heap.size, 8, none⟩ (.slice none 0 0)).setCell ⟨w.heap.size, 9, none⟩ (.int .i64 0)).setCell ⟨w.heap.size, 10, none⟩ (.int .i64 0)).setCell ⟨w.heap.size, 11, none⟩ (.int .i64 0)).setCell ⟨w.heap.size, 12, none⟩ (.int .i64 0)).setCell ⟨w.heap.size, 13, none⟩ (.bool false)).cell? ⟨w.heap.size, 3, none⟩ = some (.int .i64 0) := by rw [Lib.cell_of_heap hW]; rfl
      have e4 : ((((((((((((((w8.setCell ⟨w.heap.size, 0, none⟩ (.int .i64 0)).setCell ⟨w.heap.size, 1, none⟩ (.int .i64 0)).setCell ⟨w.heap.size, 2, none⟩ (.int .i64 0)).setCell ⟨w.heap.size, 3, none⟩ (.int .i64 0)).setCell ⟨w.heap.size, 4, none⟩ (.int .i64 0)).setCell ⟨w.heap.size, 5, none⟩ (.int .i64 0)).setCell ⟨w.heap.size, 6, none⟩ (.int .i64 0)).setCell ⟨w.heap.size, 7, none⟩ (.slice none 0 0)).setCell ⟨w.heap.size, 8, none⟩ (.slice none 0 0)).setCell ⟨w.heap.size, 9, none⟩ (.int .i64 0)).setCell ⟨w.heap.size, 10, none⟩ (.int .i64 0)).setCell ⟨w.heap.size, 11, none⟩ (.int .i64 0)).setCell ⟨w.heap.size, 12, none⟩ (.int .i64 0)).setCell ⟨w.heap.size, 13, none⟩ (.bool false)).cell? ⟨w.heap.size, 4, none⟩ = some (.int .i64 0) := by rw [Lib.cell_of_heap hW]; rfl
      have e5 : ((((((((((((((w8.setCell ⟨w.heap.size, 0, none⟩ (.int .i64 0)).setCell ⟨w.heap.size, 1, none⟩ (.int .i64 0)).setCell ⟨w.heap.size, 2, none⟩ (.int .i64 0)).setCell ⟨w.heap.size, 3, none⟩ (.int .i64 0)).setCell ⟨w.heap.size, 4, none⟩ (.int .i64 0)).setCell ⟨w.heap.size, 5, none⟩ (.int .i64 0)).setCell ⟨w.heap.size, 6, none⟩ (.int .i64 0)).setCell ⟨w.heap.size, 7, none⟩ (.slice none 0 0)).setCell ⟨w.heap.size, 8, none⟩ (.slice none 0 0)).setCell ⟨w.heap.size, 9, none⟩ (.int .i64 0)).setCell ⟨w.heap.size, 10, none⟩ (.int .i64 0)).setCell ⟨w.heap.size, 11, none⟩ (.int .i64 0)).setCell ⟨w.heap.size, 12, none⟩ (.int .i64 0)).setCell ⟨w.heap.size, 13, none⟩ (.bool false)).cell? ⟨w.heap.size, 5, none⟩ = some (.int .i64 0) := by rw [Lib.cell_of_heap hW]; rfl
      have e6 : ((((((((((((((w8.setCell ⟨w.heap.size, 0, none⟩ (.int .i64 0)).setCell ⟨w.heap.size, 1, none⟩ (.int .i64 0)).setCell ⟨w.heap.size, 2, none⟩ (.int .i64 0)).setCell ⟨w.heap.size, 3, none⟩ (.int .i64 0)).setCell ⟨w.heap.size, 4, none⟩ (.int .i64 0)).setCell ⟨w.heap.size, 5, none⟩ (.int .i64 0)).setCell ⟨w.heap.size, 6, none⟩ (.int .i64 0)).setCell ⟨w.heap.size, 7, none⟩ (.slice none 0 0)).setCell ⟨w.heap.size, 8, none⟩ (.slice none 0 0)).setCell ⟨w.heap.size, 9, none⟩ (.int .i64 0)).setCell ⟨w.heap.size, 10, none⟩ (.int .i64 0)).setCell ⟨w.heap.size, 11, none⟩ (.int .i64 0)).setCell ⟨w.heap.size, 12, none⟩ (.int .i64 0)).setCell ⟨w.heap.size, 13, none⟩ (.bool false)).cell? ⟨w.heap.size, 6, none⟩ = some (.int .i64 0) := by rw [Lib.cell_of_heap hW]; rfl
      have e7 : ((((((((((((((w8.setCell ⟨w.heap.size, 0, none⟩ (.int .i64 0)).setCell ⟨w.heap.size, 1, none⟩ (.int .i64 0)).setCell ⟨w.heap.size, 2, none⟩ (.int .i64 0)).setCell ⟨w.heap.size, 3, none⟩ (.int .i64 0)).setCell ⟨w.heap.size, 4, none⟩ (.int .i64 0)).setCell ⟨w.heap.size, 5, none⟩ (.int .i64 0)).setCell ⟨w.heap.size, 6, none⟩ (.int .i64 0)).setCell ⟨w.heap.size, 7, none⟩ (.slice none 0 0)).setCell ⟨w.heap.size, 8, none⟩ (.slice none 0 0)).setCell ⟨w.heap.size, 9, none⟩ (.int .i64 0)).setCell ⟨w.heap.size, 10, none⟩ (.int .i64 0)).setCell ⟨w.heap.size, 11, none⟩ (.int .i64 0)).setCell ⟨w.heap.size, 12, none⟩ (.int .i64 0)).setCell ⟨w.heap.size, 13, none⟩ (.bool false)).cell? ⟨w.heap.size, 7, none⟩ = some (.slice none 0 0) := by rw [Lib.cell_of_heap hW]; rfl
      have e8 : ((((((((((((((w8.setCell ⟨w.heap.size, 0, none⟩ (.int .i64 0)).setCell ⟨w.heap.size, 1, none⟩ (.int .i64 0)).setCell ⟨w.heap.size, 2, none⟩ (.int .i64 0)).setCell ⟨w.heap.size, 3, none⟩ (.int .i64 0)).setCell ⟨w.heap.size, 4, none⟩ (.int .i64 0)).setCell ⟨w.heap.size, 5, none⟩ (.int .i64 0)).setCell ⟨w.heap.size, 6, none⟩ (.int .i64 0)).setCell ⟨w.heap.size, 7, none⟩ (.slice none 0 0)).setCell ⟨w.heap.size, 8, none⟩ (.slice none 0 0)).setCell ⟨w.heap.size, 9, none⟩ (.int .i64 0)).setCell ⟨w.heap.size, 10, none⟩ (.int .i64 0)).setCell ⟨w.heap.size, 11, none⟩ (.int .i64 0)).setCell ⟨w.heap.size, 12, none⟩ (.int .i64 0)).setCell ⟨w.heap.size, 13, none⟩ (.bool false)).cell? ⟨w.heap.size, 8, none⟩ = some (.slice none 0 0) := by rw [Lib.cell_of_heap hW]; rfl
      have e9 : ((((((((((((((w8.setCell ⟨w.heap.size, 0, none⟩ (.int .i64 0)).setCell ⟨w.heap.size, 1, none⟩ (.int .i64 0)).setCell ⟨w.heap.size, 2, none⟩ (.int .i64 0)).setCell ⟨w.heap.size, 3, none⟩ (.int .i64 0)).setCell ⟨w.heap.size, 4, none⟩ (.int .i64 0)).setCell ⟨w.heap.size, 5, none⟩ (.int .i64 0)).setCell ⟨w.heap.size, 6, none⟩ (.int .i64 0)).setCell ⟨w.heap.size, 7, none⟩ (.slice none 0 0)).setCell ⟨w.heap.size, 8, none⟩ (.slice none 0 0)).setCell ⟨w.heap.size, 9, none⟩ (.int .i64 0)).setCell ⟨w.heap.size, 10, none⟩ (.int .i64 0)).setCell ⟨w.heap.size, 11, none⟩ (.int .i64 0)).setCell ⟨w.heap.size, 12, none⟩ (.int .i64 0)).setCell ⟨w.heap.size, 13, none⟩ (.bool false)).cell? ⟨w.heap.size, 9, none⟩ = some (.int .i64 0) := by rw [Lib.cell_of_heap hW]; rfl
      have e10 : ((((((((((((((w8.setCell ⟨w.heap.size, 0, none⟩ (.int .i64 0)).setCell ⟨w.heap.size, 1, none⟩ (.int .i64 0)).setCell ⟨w.heap.size, 2, none⟩ (.int .i64 0)).setCell ⟨w.heap.size, 3, none⟩ (.int .i64 0)).setCell ⟨w.heap.size, 4, none⟩ (.int .i64 0)).setCell ⟨w.heap.size, 5, none⟩ (.int .i64 0)).setCell ⟨w.heap.size, 6, none⟩ (.int .i64 0)).setCell ⟨w.heap.size, 7, none⟩ (.slice none 0 0)).setCell ⟨w.heap.size, 8, none⟩ (.slice none 0 0)).setCell ⟨w.heap.size, 9, none⟩ (.int .i64 0)).setCell ⟨w.heap.size, 10, none⟩ (.int .i64 0)).setCell ⟨w.heap.size, 11, none⟩ (.int .i64 0)).setCell ⟨w.heap.size, 12, none⟩ (.int .i64 0)).setCell ⟨w.heap.size, 13, none⟩ (.bool false)).cell? ⟨w.heap.size, 10, none⟩ = some (.int .i64 0) := by rw [Lib.cell_of_heap hW]; rfl
      have e11 : ((((((((((((((w8.setCell ⟨w.heap.size, 0, none⟩ (.int .i64 0)).setCell ⟨w.heap.size, 1, none⟩ (.int .i64 0)).setCell ⟨w.heap.size, 2, none⟩ (.int .i64 0)).setCell ⟨w.heap.size, 3, none⟩ (.int .i64 0)).setCell ⟨w.heap.size, 4, none⟩ (.int .i64 0)).setCell ⟨w.heap.size, 5, none⟩ (.int .i64 0)).setCell ⟨w.heap.size, 6, none⟩ (.int .i64 0)).setCell ⟨w.heap.size, 7, none⟩ (.slice none 0 0)).setCell ⟨w.heap.size, 8, none⟩ (.slice none 0 0)).setCell ⟨w.heap.size, 9, none⟩ (.int .i64 0)).setCell ⟨w.heap.size, 10, none⟩ (.int .i64 0)).setCell ⟨w.heap.size, 11, none⟩ (.int .i64 0)).setCell ⟨w.heap.size, 12, none⟩ (.int .i64 0)).setCell ⟨w.heap.size, 13, none⟩ (.bool false)).cell? ⟨w.heap.size, 11, none⟩ = some (.int .i64 0) := by rw [Lib.cell_of_heap hW]; rfl
      have e12 : ((((((((((((((w8.setCell ⟨w.heap.size, 0, none⟩ (.int .i64 0)).setCell ⟨w.heap.size, 1, none⟩ (.int .i64 0)).setCell ⟨w.heap.size, 2, none⟩ (.int .i64 0)).setCell ⟨w.heap.size, 3, none⟩ (.int .i64 0)).setCell ⟨w.heap.size, 4, none⟩ (.int .i64 0)).setCell ⟨w.heap.size, 5, none⟩ (.int .i64 0)).setCell ⟨w.heap.size, 6, none⟩ (.int .i64 0)).setCell ⟨w.heap.size, 7, none⟩ (.slice none 0 0)).setCell ⟨w.heap.size, 8, none⟩ (.slice none 0 0)).setCell ⟨w.heap.size, 9, none⟩ (.int .i64 0)).setCell ⟨w.heap.size, 10, none⟩ (.int .i64 0)).setCell ⟨w.heap.size, 11, none⟩ (.int .i64 0)).setCell ⟨w.heap.size, 12, none⟩ (.int .i64 0)).setCell ⟨w.heap.size, 13, none⟩ (.bool false)).cell? ⟨w.heap.size, 12, none⟩ = some (.int .i64 0) := by rw [Lib.cell_of_heap hW]; rfl
      have e13 : ((((((((((((((w8.setCell ⟨w.heap.size, 0, none⟩ (.int .i64 0)).setCell ⟨w.heap.size, 1, none⟩ (.int .i64 0)).setCell ⟨w.heap.size, 2, none⟩ (.int .i64 0)).setCell ⟨w.heap.size, 3, none⟩ (.int .i64 0)).setCell ⟨w.heap.size, 4, none⟩ (.int .i64 0)).setCell ⟨w.heap.size, 5, none⟩ (.int .i64 0)).setCell ⟨w.heap.size, 6, none⟩ (.int .i64 0)).setCell ⟨w.heap.size, 7, none⟩ (.slice none 0 0)).setCell ⟨w.heap.size, 8, none⟩ (.slice none 0 0)).setCell ⟨w.heap.size, 9, none⟩ (.int .i64 0)).setCell ⟨w.heap.size, 10, none⟩ (.int .i64 0)).setCell ⟨w.heap.size, 11, none⟩ (.int .i64 0)).setCell ⟨w.heap.size, 12, none⟩ (.int .i64 0)).setCell ⟨w.heap.size, 13, none⟩ (.bool false)).cell? ⟨w.heap.size, 13, none⟩ = some (.bool false) := by rw [Lib.cell_of_heap hW]; rfl
      refine bodyPost_ret (v := .tuple #[.agg #[.int .i64 0, .int .i64 0, .int .i64 0, .int .i64 0, .int .i64 0, .int .i64 0, .int .i64 0, .slice none 0 0, .slice none 0 0, .int .i64 0, .int .i64 0, .int .i64 0, .int .i64 0, .bool false], .int .i64 6]) (by simp [results, Try.results66, go_sem, e0, e1, e2, e3, e4, e5, e6, e7, e8, e9, e10, e11, e12, e13]) rfl ?_
      rw [HDEF.out, if_pos HE.out]
      exact decOut_zero rfl ((((((((((((((hB8.setCell (Nat.le_refl _) _).setCell (Nat.le_refl _) _).setCell (Nat.le_refl _) _).setCell (Nat.le_refl _) _).setCell (Nat.le_refl _) _).setCell (Nat.le_refl _) _).setCell (Nat.le_refl _) _).setCell (Nat.le_refl _) _).setCell (Nat.le_refl _) _).setCell (Nat.le_refl _) _).setCell (Nat.le_refl _) _).setCell (Nat.le_refl _) _).setCell (Nat.le_refl _) _).setCell (Nat.le_refl _) _)
  · have hpd : ¬ (p : Int) < (T.length : Int) := by omega
    go_upto_region 9 with (fail)
    have hM9 : ((((((v4.setCell ⟨mb, 9, none⟩ (.int .i64 y1)).setCell ⟨mb, 10, none⟩ (.int .i64 y2)).setCell ⟨mb, 11, none⟩ (.int .i64 y3)).setCell ⟨mb, 12, none⟩ (.int .i64 y4)).setCell ⟨mb, 13, none⟩ (.bool false)).setCell ⟨mb, 13, none⟩ (.bool false)).heap[mb]? = some (.cells #[.int .i64 x1, .int .i64 x2, .int .i64 x3, .int .i64 x4, .int .i64 x5, .int .i64 0, .int .i64 0, .slice none 0 0, .slice none 0 0, .int .i64 y1, .int .i64 y2, .int .i64 y3, .int .i64 y4, .bool false] 69 (0, 0)) := by
      have := heap_set _ _ 13 (.bool false) _ _ _ (heap_set _ _ 13 (.bool false) _ _ _ (heap_set _ _ 12 (.int .i64 y4) _ _ _ (heap_set _ _ 11 (.int .i64 y3) _ _ _ (heap_set _ _ 10 (.int .i64 y2) _ _ _ (heap_set _ _ 9 (.int .i64 y1) _ _ _ hM7)))))
      simpa using this
    have hO9 : Only rb wb ((((((v4.setCell ⟨mb, 9, none⟩ (.int .i64 y1)).setCell ⟨mb, 10, none⟩ (.int .i64 y2)).setCell ⟨mb, 11, none⟩ (.int .i64 y3)).setCell ⟨mb, 12, none⟩ (.int .i64 y4)).setCell ⟨mb, 13, none⟩ (.bool false)).setCell ⟨mb, 13, none⟩ (.bool false)) := (only_new (only_new (only_new (only_new (only_new (only_new (hO6.trans hO7) (by omega) _ _) (by omega) _ _) (by omega) _ _) (by omega) _ _) (by omega) _ _) (by omega) _ _)
    generalize hWz : ((((((v4.setCell ⟨mb, 9, none⟩ (.int .i64 y1)).setCell ⟨mb, 10, none⟩ (.int .i64 y2)).setCell ⟨mb, 11, none⟩ (.int .i64 y3)).setCell ⟨mb, 12, none⟩ (.int .i64 y4)).setCell ⟨mb, 13, none⟩ (.bool false)).setCell ⟨mb, 13, none⟩ (.bool false)) = wz at *
    clear hWz
    have hm : (⟨x1, x2, x3, x4, x5, 0, 0, [], [], y1, y2, y3, y4, false⟩ : Msg) = looseM T := by
      have hwh := whole_out T p hpl
      simp only [looseM, looseR, HX1.out, HX2.out, HX3.out, HX4.out, HX5.out, HS5.out, k1, k2, HY1.out, HY2.out, HY3.out, HY4.out, HS6.out, if_true, Bool.false_eq_true, if_false, ← hwh]
    have hBw : Below w.heap.size w wz := hO9.below (hB1.trans (hw2.mono (by omega))) (by omega) (by omega)
    obtain ⟨v, v2, base, hRI⟩ : ∃ v v2 base, RInv w mb (looseM T) v v2 base wz := by
      rw [← hm]
      exact ⟨.slice none 0 0, .slice none 0 0, v4.heap.size, hM9, World.ownsRow_nil _ _ _ _, World.ownsRow_nil _ _ _ _, (hO9.block _ (by omega) (by omega)).trans ((hw2.block _ (by omega)).trans hr1), by omega, by omega, hBw⟩
    have hkd : (looseM T).kind = x1 := by rw [← hm]
    have k3' : ((looseM T).kind == 2) = false := by rw [hkd]; exact k3
    have k4' : ((looseM T).kind == 3) = false := by rw [hkd]; exact k4
    clear hm hkd
    generalize looseM T = m at *
    clear hM hM7 hM9 hr1 hB1 hw2 hO6 hO7 hO9 hr6 hBw m0 k1 k2 k3 k4 hq4 p1 g9 g10 g11 g12 g13 gf9 gf10 gf11 gf12 gf13
    obtain ⟨A, c, rfl, hp7⟩ := rdS_own (n := 4) (cells := Seg.cells) (ok := Seg.ok) (hn := fun _ => rfl) hRI.own hok.2.1
    obtain ⟨A', c', rfl, hl7⟩ := rdS_own (n := 2) (cells := Lnk.cells) (ok := Lnk.ok) (hn := fun _ => rfl) hRI.own2 hok.2.2
    have c0 := Lib.cell_of_heap hRI.box 0
    have c1 := Lib.cell_of_heap hRI.box 1
    have c2 := Lib.cell_of_heap hRI.box 2
    have c3 := Lib.cell_of_heap hRI.box 3
    have c4 := Lib.cell_of_heap hRI.box 4
    have c5 := Lib.cell_of_heap hRI.box 5
    have c6 := Lib.cell_of_heap hRI.box 6
    have c7 := Lib.cell_of_heap hRI.box 7
    have c8 := Lib.cell_of_heap hRI.box 8
    have c9 := Lib.cell_of_heap hRI.box 9
    have c10 := Lib.cell_of_heap hRI.box 10
    have c11 := Lib.cell_of_heap hRI.box 11
    have c12 := Lib.cell_of_heap hRI.box 12
    have c13 := Lib.cell_of_heap hRI.box 13
    simp only [List.getElem?_toArray, List.getElem?_cons_succ, List.getElem?_cons_zero] at c0 c1 c2 c3 c4 c5 c6 c7 c8 c9 c10 c11 c12 c13
    go_wp2_with fail
    refine (rEncode_any m A c A' c' _ hok.1 hp7 hl7).mono ?_
    rintro e w8 ⟨rfl, hb8⟩
    have hlow := hRI.lowb
    have hlow2 := hRI.low
    have hres8 := (hb8.block w.heap.size (Nat.lt_of_lt_of_le (heap_lt hRI.res) (Nat.le_refl _))).trans hRI.res
    have hbox8 := (hb8.block mb (heap_lt hRI.box)).trans hRI.box
    have hB8 := bthru (w := w) hb8 hRI.below
    have n1 := own_only hRI.own (Only.of_below (rb := w.heap.size) hb8) hlow2
    have n2 := own_only hRI.own2 (Only.of_below (rb := w.heap.size) hb8) hlow2
    clear c0 c1 c2 c3 c4 c5 c6 c7 c8 c9 c10 c11 c12 c13
    have d0 := Lib.cell_of_heap hres8 0
    have df0 := Lib.frozen_of_heap hres8 0
    have d1 := Lib.cell_of_heap hres8 1
    have df1 := Lib.frozen_of_heap hres8 1
    have d2 := Lib.cell_of_heap hres8 2
    have df2 := Lib.frozen_of_heap hres8 2
    have d3 := Lib.cell_of_heap hres8 3
    have df3 := Lib.frozen_of_heap hres8 3
    have d4 := Lib.cell_of_heap hres8 4
    have df4 := Lib.frozen_of_heap hres8 4
    have d5 := Lib.cell_of_heap hres8 5
    have df5 := Lib.frozen_of_heap hres8 5
    have d6 := Lib.cell_of_heap hres8 6
    have df6 := Lib.frozen_of_heap hres8 6
    have d7 := Lib.cell_of_heap hres8 7
    have df7 := Lib.frozen_of_heap hres8 7
    have d8 := Lib.cell_of_heap hres8 8
    have df8 := Lib.frozen_of_heap hres8 8
    have d9 := Lib.cell_of_heap hres8 9
    have df9 := Lib.frozen_of_heap hres8 9
    have d10 := Lib.cell_of_heap hres8 10
    have df10 := Lib.frozen_of_heap hres8 10
    have d11 := Lib.cell_of_heap hres8 11
    have df11 := Lib.frozen_of_heap hres8 11
    have d12 := Lib.cell_of_heap hres8 12
    have df12 := Lib.frozen_of_heap hres8 12
    have d13 := Lib.cell_of_heap hres8 13
    have df13 := Lib.frozen_of_heap hres8 13
    simp only [List.getElem?_toArray, List.getElem?_cons_succ, List.getElem?_cons_zero] at d0 d1 d2 d3 d4 d5 d6 d7 d8 d9 d10 d11 d12 d13
    by_cases he : encM m = l
    · have he1 : (encM m == l) = true := by simp [he]
      have he2 : (encM m != l) = false := by simp [he]
      have HE := Lib.hid he
      clear he
      have g0 := Lib.cell_of_heap hbox8 0
      have g1 := Lib.cell_of_heap hbox8 1
      have g2 := Lib.cell_of_heap hbox8 2
      have g3 := Lib.cell_of_heap hbox8 3
      have g4 := Lib.cell_of_heap hbox8 4
      have g5 := Lib.cell_of_heap hbox8 5
      have g6 := Lib.cell_of_heap hbox8 6
      have g7 := Lib.cell_of_heap hbox8 7
      have g8 := Lib.cell_of_heap hbox8 8
      have g9 := Lib.cell_of_heap hbox8 9
      have g10 := Lib.cell_of_heap hbox8 10
      have g11 := Lib.cell_of_heap hbox8 11
      have g12 := Lib.cell_of_heap hbox8 12
      have g13 := Lib.cell_of_heap hbox8 13
      simp only [List.getElem?_toArray, List.getElem?_cons_succ, List.getElem?_cons_zero] at g0 g1 g2 g3 g4 g5 g6 g7 g8 g9 g10 g11 g12 g13
      go_wp2_with fail
      have hW : ((((((((((((((w8.setCell ⟨w.heap.size, 0, none⟩ (.int .i64 m.kind)).setCell ⟨w.heap.size, 1, none⟩ (.int .i64 m.fro)).setCell ⟨w.heap.size, 2, none⟩ (.int .i64 m.to)).setCell ⟨w.heap.size, 3, none⟩ (.int .i64 m.seq)).setCell ⟨w.heap.size, 4, none⟩ (.int .i64 m.time)).setCell ⟨w.heap.size, 5, none⟩ (.int .i64 m.aseq)).setCell ⟨w.heap.size, 6, none⟩ (.int .i64 m.aend)).setCell ⟨w.heap.size, 7, none⟩ (.slice A m.prof.length c)).setCell ⟨w.heap.size, 8, none⟩ (.slice A' m.links.length c')).setCell ⟨w.heap.size, 9, none⟩ (.int .i64 m.min)).setCell ⟨w.heap.size, 10, none⟩ (.int .i64 m.speed)).setCell ⟨w.heap.size, 11, none⟩ (.int .i64 m.mode)).setCell ⟨w.heap.size, 12, none⟩ (.int .i64 m.acc)).setCell ⟨w.heap.size, 13, none⟩ (.bool m.whole)).heap[w.heap.size]? = some (.cells #[.int .i64 m.kind, .int .i64 m.fro, .int .i64 m.to, .int .i64 m.seq, .int .i64 m.time, .int .i64 m.aseq, .int .i64 m.aend, .slice A m.prof.length c, .slice A' m.links.length c', .int .i64 m.min, .int .i64 m.speed, .int .i64 m.mode, .int .i64 m.acc, .bool m.whole] 69 (0, 0)) := by
        have := (heap_set _ _ 13 (.bool m.whole) _ _ _ (heap_set _ _ 12 (.int .i64 m.acc) _ _ _ (heap_set _ _ 11 (.int .i64 m.mode) _ _ _ (heap_set _ _ 10 (.int .i64 m.speed) _ _ _ (heap_set _ _ 9 (.int .i64 m.min) _ _ _ (heap_set _ _ 8 (.slice A' m.links.length c') _ _ _ (heap_set _ _ 7 (.slice A m.prof.length c) _ _ _ (heap_set _ _ 6 (.int .i64 m.aend) _ _ _ (heap_set _ _ 5 (.int .i64 m.aseq) _ _ _ (heap_set _ _ 4 (.int .i64 m.time) _ _ _ (heap_set _ _ 3 (.int .i64 m.seq) _ _ _ (heap_set _ _ 2 (.int .i64 m.to) _ _ _ (heap_set _ _ 1 (.int .i64 m.fro) _ _ _ (heap_set _ _ 0 (.int .i64 m.kind) _ _ _ hres8))))))))))))))
        simpa using this
      have e0 : ((((((((((((((w8.setCell ⟨w.heap.size, 0, none⟩ (.int .i64 m.kind)).setCell ⟨w.heap.size, 1, none⟩ (.int .i64 m.fro)).setCell ⟨w.heap.size, 2, none⟩ (.int .i64 m.to)).setCell ⟨w.heap.size, 3, none⟩ (.int .i64 m.seq)).setCell ⟨w.heap.size, 4, none⟩ (.int .i64 m.time)).setCell ⟨w.heap.size, 5, none⟩ (.int .i64 m.aseq)).setCell ⟨w.heap.size, 6, none⟩ (.int .i64 m.aend)).setCell ⟨w.heap.size, 7, none⟩ (.slice A m.prof.length c)).setCell ⟨w.heap.size, 8, none⟩ (.slice A' m.links.length c')).setCell ⟨w.heap.size, 9, none⟩ (.int .i64 m.min)).setCell ⟨w.heap.size, 10, none⟩ (.int .i64 m.speed)).setCell ⟨w.heap.size, 11, none⟩ (.int .i64 m.mode)).setCell ⟨w.heap.size, 12, none⟩ (.int .i64 m.acc)).setCell ⟨w.heap.size, 13, none⟩ (.bool m.whole)).cell? ⟨w.heap.size, 0, none⟩ = some (.int .i64 m.kind) := by rw [Lib.cell_of_heap hW]; rfl
      have e1 : ((((((((((((((w8.setCell ⟨w.heap.size, 0, none⟩ (.int .i64 m.kind)).setCell ⟨w.heap.size, 1, none⟩ (.int .i64 m.fro)).setCell ⟨w.heap.size, 2, none⟩ (.int .i64 m.to)).setCell ⟨w.heap.size, 3, none⟩ (.int .i64 m.seq)).setCell ⟨w.heap.size, 4, none⟩ (.int .i64 m.time)).setCell ⟨w.heap.size, 5, none⟩ (.int .i64 m.aseq)).setCell ⟨w.heap.size, 6, none⟩ (.int .i64 m.aend)).setCell ⟨w.heap.size, 7, none⟩ (.slice A m.prof.length c)).setCell ⟨w.heap.size, 8, none⟩ (.slice A' m.links.length c')).setCell ⟨w.heap.size, 9, none⟩ (.int .i64 m.min)).setCell ⟨w.heap.size, 10, none⟩ (.int .i64 m.speed)).setCell ⟨w.heap.size, 11, none⟩ (.int .i64 m.mode)).setCell ⟨w.heap.size, 12, none⟩ (.int .i64 m.acc)).setCell ⟨w.heap.size, 13, none⟩ (.bool m.whole)).cell? ⟨w.heap.size, 1, none⟩ = some (.int .i64 m.fro) := by rw [Lib.cell_of_heap hW]; rfl
      have e2 : ((((((((((((((w8.setCell ⟨w.heap.size, 0, none⟩ (.int .i64 m.kind)).setCell ⟨w.heap.size, 1, none⟩ (.int .i64 m.fro)).setCell ⟨w.heap.size, 2, none⟩ (.int .i64 m.to)).setCell ⟨w.heap.size, 3, none⟩ (.int .i64 m.seq)).setCell ⟨w.heap.size, 4, none⟩ (.int .i64 m.time)).setCell ⟨w.heap.size, 5, none⟩ (.int .i64 m.aseq)).setCell ⟨w.heap.size, 6, none⟩ (.int .i64 m.aend)).setCell ⟨w.heap.size, 7, none⟩ (.slice A m.prof.length c)).setCell ⟨w.heap.size, 8, none⟩ (.slice A' m.links.length c')).setCell ⟨w.heap.size, 9, none⟩ (.int .i64 m.min)).setCell ⟨w.heap.size, 10, none⟩ (.int .i64 m.speed)).setCell ⟨w.heap.size, 11, none⟩ (.int .i64 m.mode)).setCell ⟨w.heap.size, 12, none⟩ (.int .i64 m.acc)).setCell ⟨w.heap.size, 13, none⟩ (.bool m.whole)).cell? ⟨w.heap.size, 2, none⟩ = some (.int .i64 m.to) := by rw [Lib.cell_of_heap hW]; rfl
      have e3 : ((((((((((((((w8.setCell ⟨w.heap.size, 0, none⟩ (.int .i64 m.kind)).setCell ⟨w.heap.size, 1, none⟩ (.int .i64 m.fro)).setCell ⟨w.heap.size, 2, none⟩ (.int .i64 m.to)).setCell ⟨w.heap.size, 3, none⟩ (.int .i64 m.seq)).setCell ⟨w.heap.size, 4, none⟩ (.int .i64 m.time)).setCell ⟨w.heap.size, 5, none⟩ (.int .i64 m.aseq)).setCell ⟨w.heap.size, 6, none⟩ (.int .i64 m.aend)).setCell ⟨w.heap.size, 7, none⟩ (.slice A m.prof.length c)).setCell ⟨w.heap.size, 8, none⟩ (.slice A' m.links.length c')).setCell ⟨w.heap.size, 9, none⟩ (.int .i64 m.min)).setCell ⟨w.heap.size, 10, none⟩ (.int .i64 m.speed)).setCell ⟨w.heap.size, 11, none⟩ (.int .i64 m.mode)).setCell ⟨w.heap.size, 12, none⟩ (.int .i64 m.acc)).setCell ⟨w.heap.size, 13, none⟩ (.bool m.whole)).cell? ⟨w.heap.size, 3, none⟩ = some (.int .i64 m.seq) := by rw [Lib.cell_of_heap hW]; rfl
      have e4 : ((((((((((((((w8.setCell ⟨w.heap.size, 0, none⟩ (.int .i64 m.kind)).setCell ⟨w.heap.size, 1, none⟩ (.int .i64 m.fro)).setCell ⟨w.heap.size, 2, none⟩ (.int .i64 m.to)).setCell ⟨w.heap.size, 3, none⟩ (.int .i64 m.seq)).setCell ⟨w.heap.size, 4, none⟩ (.int .i64 m.time)).setCell ⟨w.heap.size, 5, none⟩ (.int .i64 m.aseq)).setCell ⟨w.heap.size, 6, none⟩ (.int .i64 m.aend)).setCell ⟨w.heap.size, 7, none⟩ (.slice A m.prof.length c)).setCell ⟨w.heap.size, 8, none⟩ (.slice A' m.links.length c')).setCell ⟨w.heap.size, 9, none⟩ (.int .i64 m.min)).setCell ⟨w.heap.size, 10, none⟩ (.int .i64 m.speed)).setCell ⟨w.heap.size, 11, none⟩ (.int .i64 m.mode)).setCell ⟨w.heap.size, 12, none⟩ (.int .i64 m.acc)).setCell ⟨w.heap.size, 13, none⟩ (.bool m.whole)).cell? ⟨w.heap.size, 4, none⟩ = some (.int .i64 m.time) := by rw [Lib.cell_of_heap hW]; rfl
      have e5 : ((((((((((((((w8.setCell ⟨w.heap.size, 0, none⟩ (.int .i64 m.kind)).setCell ⟨w.heap.size, 1, none⟩ (.int .i64 m.fro)).setCell ⟨w.heap.size, 2, none⟩ (.int .i64 m.to)).setCell ⟨w.heap.size, 3, none⟩ (.int .i64 m.seq)).setCell ⟨w.heap.size, 4, none⟩ (.int .i64 m.time)).setCell ⟨w.heap.size, 5, none⟩ (.int .i64 m.aseq)).setCell ⟨w.heap.size, 6, none⟩ (.int .i64 m.aend)).setCell ⟨w.heap.size, 7, none⟩ (.slice A m.prof.length c)).setCell ⟨w.heap.size, 8, none⟩ (.slice A' m.links.length c')).setCell ⟨w.heap.size, 9, none⟩ (.int .i64 m.min)).setCell ⟨w.heap.size, 10, none⟩ (.int .i64 m.speed)).setCell ⟨w.heap.size, 11, none⟩ (.int .i64 m.mode)).setCell ⟨w.heap.size, 12, none⟩ (.int .i64 m.acc)).setCell ⟨w.heap.size, 13, none⟩ (.bool m.whole)).cell? ⟨w.heap.size, 5, none⟩ = some (.int .i64 m.aseq) := by rw [Lib.cell_of_heap hW]; rfl
      have e6 : ((((((((((((((w8.setCell ⟨w.heap.size, 0, none⟩ (.int .i64 m.kind)).setCell ⟨w.heap.size, 1, none⟩ (.int .i64 m.fro)).setCell ⟨w.heap.size, 2, none⟩ (.int .i64 m.to)).setCell ⟨w.heap.size, 3, none⟩ (.int .i64 m.seq)).setCell ⟨w.heap.size, 4, none⟩ (.int .i64 m.time)).setCell ⟨w.heap.size, 5, none⟩ (.int .i64 m.aseq)).setCell ⟨w.heap.size, 6, none⟩ (.int .i64 m.aend)).setCell ⟨w.heap.size, 7, none⟩ (.slice A m.prof.length c)).setCell ⟨w.heap.size, 8, none⟩ (.slice A' m.links.length c')).setCell ⟨w.heap.size, 9, none⟩ (.int .i64 m.min)).setCell ⟨w.heap.size, 10, none⟩ (.int .i64 m.speed)).setCell ⟨w.heap.size, 11, none⟩ (.int .i64 m.mode)).setCell ⟨w.heap.size, 12, none⟩ (.int .i64 m.acc)).setCell ⟨w.heap.size, 13, none⟩ (.bool m.whole)).cell? ⟨w.heap.size, 6, none⟩ = some (.int .i64 m.aend) := by rw [Lib.cell_of_heap hW]; rfl
      have e7 : ((((((((((((((w8.setCell ⟨w.heap.size, 0, none⟩ (.int .i64 m.kind)).setCell ⟨w.heap.size, 1, none⟩ (.int .i64 m.fro)).setCell ⟨w.heap.size, 2, none⟩ (.int .i64 m.to)).setCell ⟨w.heap.size, 3, none⟩ (.int .i64 m.seq)).setCell ⟨w.heap.size, 4, none⟩ (.int .i64 m.time)).setCell ⟨w.heap.size, 5, none⟩ (.int .i64 m.aseq)).setCell ⟨w.heap.size, 6, none⟩ (.int .i64 m.aend)).setCell ⟨w.heap.size, 7, none⟩ (.slice A m.prof.length c)).setCell ⟨w.heap.size, 8, none⟩ (.slice A' m.links.length c')).setCell ⟨w.heap.size, 9, none⟩ (.int .i64 m.min)).setCell ⟨w.heap.size, 10, none⟩ (.int .i64 m.speed)).setCell ⟨w.heap.size, 11, none⟩ (.int .i64 m.mode)).setCell ⟨w.heap.size, 12, none⟩ (.int .i64 m.acc)).setCell ⟨w.heap.size, 13, none⟩ (.bool m.whole)).cell? ⟨w.heap.size, 7, none⟩ = some (.slice A m.prof.length c) := by rw [Lib.cell_of_heap hW]; rfl
      have e8 : ((((((((((((((w8.setCell ⟨w.heap.size, 0, none⟩ (.int .i64 m.kind)).setCell ⟨w.heap.size, 1, none⟩ (.int .i64 m.fro)).setCell ⟨w.heap.size, 2, none⟩ (.int .i64 m.to)).setCell ⟨w.heap.size, 3, none⟩ (.int .i64 m.seq)).setCell ⟨w.heap.size, 4, none⟩ (.int .i64 m.time)).setCell ⟨w.heap.size, 5, none⟩ (.int .i64 m.aseq)).setCell ⟨w.heap.size, 6, none⟩ (.int .i64 m.aend)).setCell ⟨w.heap.size, 7, none⟩ (.slice A m.prof.length c)).setCell ⟨w.heap.size, 8, none⟩ (.slice A' m.links.length c')).setCell ⟨w.heap.size, 9, none⟩ (.int .i64 m.min)).setCell ⟨w.heap.size, 10, none⟩ (.int .i64 m.speed)).setCell ⟨w.heap.size, 11, none⟩ (.int .i64 m.mode)).setCell ⟨w.heap.size, 12, none⟩ (.int .i64 m.acc)).setCell ⟨w.heap.size, 13, none⟩ (.bool m.whole)).cell? ⟨w.heap.size, 8, none⟩ = some (.slice A' m.links.length c') := by rw [Lib.cell_of_heap hW]; rfl
      have e9 : ((((((((((((((w8.setCell ⟨w.heap.size, 0, none⟩ (.int .i64 m.kind)).setCell ⟨w.heap.size, 1, none⟩ (.int .i64 m.fro)).setCell ⟨w.heap.size, 2, none⟩ (.int .i64 m.to)).setCell ⟨w.heap.size, 3, none⟩ (.int .i64 m.seq)).setCell ⟨w.heap.size, 4, none⟩ (.int .i64 m.time)).setCell ⟨w.heap.size, 5, none⟩ (.int .i64 m.aseq)).setCell ⟨w.heap.size, 6, none⟩ (.int .i64 m.aend)).setCell ⟨w.heap.size, 7, none⟩ (.slice A m.prof.length c)).setCell ⟨w.heap.size, 8, none⟩ (.slice A' m.links.length c')).setCell ⟨w.heap.size, 9, none⟩ (.int .i64 m.min)).setCell ⟨w.heap.size, 10, none⟩ (.int .i64 m.speed)).setCell ⟨w.heap.size, 11, none⟩ (.int .i64 m.mode)).setCell ⟨w.heap.size, 12, none⟩ (.int .i64 m.acc)).setCell ⟨w.heap.size, 13, none⟩ (.bool m.whole)).cell? ⟨w.heap.size, 9, none⟩ = some (.int .i64 m.min) := by rw [Lib.cell_of_heap hW]; rfl
      have e10 : ((((((((((((((w8.setCell ⟨w.heap.size, 0, none⟩ (.int .i64 m.kind)).setCell ⟨w.heap.size, 1, none⟩ (.int .i64 m.fro)).setCell ⟨w.heap.size, 2, none⟩ (.int .i64 m.to)).setCell ⟨w.heap.size, 3, none⟩ (.int .i64 m.seq)).setCell ⟨w.heap.size, 4, none⟩ (.int .i64 m.time)).setCell ⟨w.heap.size, 5, none⟩ (.int .i64 m.aseq)).setCell ⟨w.heap.size, 6, none⟩ (.int .i64 m.aend)).setCell ⟨w.heap.size, 7, none⟩ (.slice A m.prof.length c)).setCell ⟨w.heap.size, 8, none⟩ (.slice A' m.links.length c')).setCell ⟨w.heap.size, 9, none⟩ (.int .i64 m.min)).setCell ⟨w.heap.size, 10, none⟩ (.int .i64 m.speed)).setCell ⟨w.heap.size, 11, none⟩ (.int .i64 m.mode)).setCell ⟨w.heap.size, 12, none⟩ (.int .i64 m.acc)).setCell ⟨w.heap.size, 13, none⟩ (.bool m.whole)).cell? ⟨w.heap.size, 10, none⟩ = some (.int .i64 m.speed) := by rw [Lib.cell_of_heap hW]; rfl
      have e11 : ((((((((((((((w8.setCell ⟨w.heap.size, 0, none⟩ (.int .i64 m.kind)).setCell ⟨w.heap.size, 1, none⟩ (.int .i64 m.fro)).setCell ⟨w.heap.size, 2, none⟩ (.int .i64 m.to)).setCell ⟨w.heap.size, 3, none⟩ (.int .i64 m.seq)).setCell ⟨w.heap.size, 4, none⟩ (.int .i64 m.time)).setCell ⟨w.heap.size, 5, none⟩ (.int .i64 m.aseq)).setCell ⟨w.heap.size, 6, none⟩ (.int .i64 m.aend)).setCell ⟨w.heap.size, 7, none⟩ (.slice A m.prof.length c)).setCell ⟨w.heap.size, 8, none⟩ (.slice A' m.links.length c')).setCell ⟨w.heap.size, 9, none⟩ (.int .i64 m.min)).setCell ⟨w.heap.size, 10, none⟩ (.int .i64 m.speed)).setCell ⟨w.heap.size, 11, none⟩ (.int .i64 m.mode)).setCell ⟨w.heap.size, 12, none⟩ (.int .i64 m.acc)).setCell ⟨w.heap.size, 13, none⟩ (.bool m.whole)).cell? ⟨w.heap.size, 11, none⟩ = some (.int .i64 m.mode) := by rw [Lib.cell_of_heap hW]; rfl
      have e12 : ((((((((((((((w8.setCell ⟨w.heap.size, 0, none⟩ (.int .i64 m.kind)).setCell ⟨w.heap.size, 1, none⟩ (.int .i64 m.fro)).setCell ⟨w.heap.size, 2, none⟩ (.int .i64 m.to)).setCell ⟨w.heap.size, 3, none⟩ (.int .i64 m.seq)).setCell ⟨w.heap.size, 4, none⟩ (.int .i64 m.time)).setCell ⟨w.heap.size, 5, none⟩ (.int .i64 m.aseq)).setCell ⟨w.heap.size, 6, none⟩ (.int .i64 m.aend)).setCell ⟨w.heap.size, 7, none⟩ (.slice A m.prof.length c)).setCell ⟨w.heap.size, 8, none⟩ (.slice A' m.links.length c')).setCell ⟨w.heap.size, 9, none⟩ (.int .i64 m.min)).setCell ⟨w.heap.size, 10, none⟩ (.int .i64 m.speed)).setCell ⟨w.heap.size, 11, none⟩ (.int .i64 m.mode)).setCell ⟨w.heap.size, 12, none⟩ (.int .i64 m.acc)).setCell ⟨w.heap.size, 13, none⟩ (.bool m.whole)).cell? ⟨w.heap.size, 12, none⟩ = some (.int .i64 m.acc) := by rw [Lib.cell_of_heap hW]; rfl
      have e13 : ((((((((((((((w8.setCell ⟨w.heap.size, 0, none⟩ (.int .i64 m.kind)).setCell ⟨w.heap.size, 1, none⟩ (.int .i64 m.fro)).setCell ⟨w.heap.size, 2, none⟩ (.int .i64 m.to)).setCell ⟨w.heap.size, 3, none⟩ (.int .i64 m.seq)).setCell ⟨w.heap.size, 4, none⟩ (.int .i64 m.time)).setCell ⟨w.heap.size, 5, none⟩ (.int .i64 m.aseq)).setCell ⟨w.heap.size, 6, none⟩ (.int .i64 m.aend)).setCell ⟨w.heap.size, 7, none⟩ (.slice A m.prof.length c)).setCell ⟨w.heap.size, 8, none⟩ (.slice A' m.links.length c')).setCell ⟨w.heap.size, 9, none⟩ (.int .i64 m.min)).setCell ⟨w.heap.size, 10, none⟩ (.int .i64 m.speed)).setCell ⟨w.heap.size, 11, none⟩ (.int .i64 m.mode)).setCell ⟨w.heap.size, 12, none⟩ (.int .i64 m.acc)).setCell ⟨w.heap.size, 13, none⟩ (.bool m.whole)).cell? ⟨w.heap.size, 13, none⟩ = some (.bool m.whole) := by rw [Lib.cell_of_heap hW]; rfl
      refine bodyPost_ret (v := .tuple #[.agg #[.int .i64 m.kind, .int .i64 m.fro, .int .i64 m.to, .int .i64 m.seq, .int .i64 m.time, .int .i64 m.aseq, .int .i64 m.aend, .slice A m.prof.length c, .slice A' m.links.length c', .int .i64 m.min, .int .i64 m.speed, .int .i64 m.mode, .int .i64 m.acc, .bool m.whole], .int .i64 0]) (by simp [results, Try.results66, go_sem, e0, e1, e2, e3, e4, e5, e6, e7, e8, e9, e10, e11, e12, e13]) rfl ?_
      rw [HDEF.out, if_neg (by rw [HE.out]; simp)]
      have on1 : ((((((((((((((w8.setCell ⟨w.heap.size, 0, none⟩ (.int .i64 m.kind)).setCell ⟨w.heap.size, 1, none⟩ (.int .i64 m.fro)).setCell ⟨w.heap.size, 2, none⟩ (.int .i64 m.to)).setCell ⟨w.heap.size, 3, none⟩ (.int .i64 m.seq)).setCell ⟨w.heap.size, 4, none⟩ (.int .i64 m.time)).setCell ⟨w.heap.size, 5, none⟩ (.int .i64 m.aseq)).setCell ⟨w.heap.size, 6, none⟩ (.int .i64 m.aend)).setCell ⟨w.heap.size, 7, none⟩ (.slice A m.prof.length c)).setCell ⟨w.heap.size, 8, none⟩ (.slice A' m.links.length c')).setCell ⟨w.heap.size, 9, none⟩ (.int .i64 m.min)).setCell ⟨w.heap.size, 10, none⟩ (.int .i64 m.speed)).setCell ⟨w.heap.size, 11, none⟩ (.int .i64 m.mode)).setCell ⟨w.heap.size, 12, none⟩ (.int .i64 m.acc)).setCell ⟨w.heap.size, 13, none⟩ (.bool m.whole)).ownsRow base 100 4 (.slice A m.prof.length c) m.prof.length (m.prof.flatMap Seg.cells) := (own_set (own_set (own_set (own_set (own_set (own_set (own_set (own_set (own_set (own_set (own_set (own_set (own_set (own_set n1 _ _ _ (by omega)) _ _ _ (by omega)) _ _ _ (by omega)) _ _ _ (by omega)) _ _ _ (by omega)) _ _ _ (by omega)) _ _ _ (by omega)) _ _ _ (by omega)) _ _ _ (by omega)) _ _ _ (by omega)) _ _ _ (by omega)) _ _ _ (by omega)) _ _ _ (by omega)) _ _ _ (by omega))
      have on2 : ((((((((((((((w8.setCell ⟨w.heap.size, 0, none⟩ (.int .i64 m.kind)).setCell ⟨w.heap.size, 1, none⟩ (.int .i64 m.fro)).setCell ⟨w.heap.size, 2, none⟩ (.int .i64 m.to)).setCell ⟨w.heap.size, 3, none⟩ (.int .i64 m.seq)).setCell ⟨w.heap.size, 4, none⟩ (.int .i64 m.time)).setCell ⟨w.heap.size, 5, none⟩ (.int .i64 m.aseq)).setCell ⟨w.heap.size, 6, none⟩ (.int .i64 m.aend)).setCell ⟨w.heap.size, 7, none⟩ (.slice A m.prof.length c)).setCell ⟨w.heap.size, 8, none⟩ (.slice A' m.links.length c')).setCell ⟨w.heap.size, 9, none⟩ (.int .i64 m.min)).setCell ⟨w.heap.size, 10, none⟩ (.int .i64 m.speed)).setCell ⟨w.heap.size, 11, none⟩ (.int .i64 m.mode)).setCell ⟨w.heap.size, 12, none⟩ (.int .i64 m.acc)).setCell ⟨w.heap.size, 13, none⟩ (.bool m.whole)).ownsRow base 77 2 (.slice A' m.links.length c') m.links.length (m.links.flatMap Lnk.cells) := (own_set (own_set (own_set (own_set (own_set (own_set (own_set (own_set (own_set (own_set (own_set (own_set (own_set (own_set n2 _ _ _ (by omega)) _ _ _ (by omega)) _ _ _ (by omega)) _ _ _ (by omega)) _ _ _ (by omega)) _ _ _ (by omega)) _ _ _ (by omega)) _ _ _ (by omega)) _ _ _ (by omega)) _ _ _ (by omega)) _ _ _ (by omega)) _ _ _ (by omega)) _ _ _ (by omega)) _ _ _ (by omega))
      obtain ⟨A1, k1', h1, r1⟩ := rdS_own (n := 4) (cells := Seg.cells) (ok := Seg.ok) (hn := fun _ => rfl) on1 hok.2.1
      obtain ⟨A2, k2', h2, r2⟩ := rdS_own (n := 2) (cells := Lnk.cells) (ok := Lnk.ok) (hn := fun _ => rfl) on2 hok.2.2
      simp only [Value.slice.injEq] at h1 h2
      obtain ⟨rfl, -, rfl⟩ := h1
      obtain ⟨rfl, -, rfl⟩ := h2
      exact ⟨_, _, _, _, rfl, r1, r2, ((((((((((((((hB8.setCell (Nat.le_refl _) _).setCell (Nat.le_refl _) _).setCell (Nat.le_refl _) _).setCell (Nat.le_refl _) _).setCell (Nat.le_refl _) _).setCell (Nat.le_refl _) _).setCell (Nat.le_refl _) _).setCell (Nat.le_refl _) _).setCell (Nat.le_refl _) _).setCell (Nat.le_refl _) _).setCell (Nat.le_refl _) _).setCell (Nat.le_refl _) _).setCell (Nat.le_refl _) _).setCell (Nat.le_refl _) _)⟩
    · have he1 : (encM m == l) = false := by simp [he]
      have he2 : (encM m != l) = true := by simp [he]
      have HE := Lib.hid he
      clear he
      go_wp2_with fail
      have hW : ((((((((((((((w8.setCell ⟨w.heap.size, 0, none⟩ (.int .i64 0)).setCell ⟨w.heap.size, 1, none⟩ (.int .i64 0)).setCell ⟨w.heap.size, 2, none⟩ (.int .i64 0)).setCell ⟨w.heap.size, 3, none⟩ (.int .i64 0)).setCell ⟨w.heap.size, 4, none⟩ (.int .i64 0)).setCell ⟨w.heap.size, 5, none⟩ (.int .i64 0)).setCell ⟨w.heap.size, 6, none⟩ (.int .i64 0)).setCell ⟨w.heap.size, 7, none⟩ (.slice none 0 0)).setCell ⟨w.heap.size, 8, none⟩ (.slice none 0 0)).setCell ⟨w.heap.size, 9, none⟩ (.int .i64 0)).setCell ⟨w.heap.size, 10, none⟩ (.int .i64 0)).setCell ⟨w.heap.size, 11, none⟩ (.int .i64 0)).setCell ⟨w.heap.size, 12, none⟩ (.int .i64 0)).setCell ⟨w.heap.size, 13, none⟩ (.bool false)).heap[w.heap.size]? = some (.cells #[.int .i64 0, .int .i64 0, .int .i64 0, .int .i64 0, .int .i64 0, .int .i64 0, .int .i64 0, .slice none 0 0, .slice none 0 0, .int .i64 0, .int .i64 0, .int .i64 0, .int .i64 0, .bool false] 69 (0, 0)) := by
        have := (heap_set _ _ 13 (.bool false) _ _ _ (heap_set _ _ 12 (.int .i64 0) _ _ _ (heap_set _ _ 11 (.int .i64 0) _ _ _ (heap_set _ _ 10 (.int .i64 0) _ _ _ (heap_set _ _ 9 (.int .i64 0) _ _ _ (heap_set _ _ 8 (.slice none 0 0) _ _ _ (heap_set _ _ 7 (.slice none 0 0) _ _ _ (heap_set _ _ 6 (.int .i64 0) _ _ _ (heap_set _ _ 5 (.int .i64 0) _ _ _ (heap_set _ _ 4 (.int .i64 0) _ _ _ (heap_set _ _ 3 (.int .i64 0) _ _ _ (heap_set _ _ 2 (.int .i64 0) _ _ _ (heap_set _ _ 1 (.int .i64 0) _ _ _ (heap_set _ _ 0 (.int .i64 0) _ _ _ hres8))))))))))))))
        simpa using this
      have e0 : ((((((((((((((w8.setCell ⟨w.heap.size, 0, none⟩ (.int .i64 0)).setCell ⟨w.heap.size, 1, none⟩ (.int .i64 0)).setCell ⟨w.heap.size, 2, none⟩ (.int .i64 0)).setCell ⟨w.heap.size, 3, none⟩ (.int .i64 0)).setCell ⟨w.heap.size, 4, none⟩ (.int .i64 0)).setCell ⟨w.heap.size, 5, none⟩ (.int .i64 0)).setCell ⟨w.heap.size, 6, none⟩ (.int .i64 0)).setCell ⟨w.heap.size, 7, none⟩ (.slice none 0 0)).setCell ⟨w.heap.size, 8, none⟩ (.slice none 0 0)).setCell ⟨w.heap.size, 9, none⟩ (.int .i64 0)).setCell ⟨w.heap.size, 10, none⟩ (.int .i64 0)).setCell ⟨w.heap.size, 11, none⟩ (.int .i64 0)).setCell ⟨w.heap.size, 12, none⟩ (.int .i64 0)).setCell ⟨w.heap.size, 13, none⟩ (.bool false)).cell? ⟨w.heap.size, 0, none⟩ = some (.int .i64 0) := by rw [Lib.cell_of_heap hW]; rfl
      have e1 : ((((((((((((((w8.setCell ⟨w.heap.size, 0, none⟩ (.int .i64 0)).setCell ⟨w.heap.size, 1, none⟩ (.int .i64 0)).setCell ⟨w.heap.size, 2, none⟩ (.int .i64 0)).setCell ⟨w.heap.size, 3, none⟩ (.int .i64 0)).setCell ⟨w.heap.size, 4, none⟩ (.int .i64 0)).setCell ⟨w.heap.size, 5, none⟩ (.int .i64 0)).setCell ⟨w.heap.size, 6, none⟩ (.int .i64 0)).setCell ⟨w.heap.size, 7, none⟩ (.slice none 0 0)).setCell ⟨w.heap.size, 8, none⟩ (.slice none 0 0)).setCell ⟨w.heap.size, 9, none⟩ (.int .i64 0)).setCell ⟨w.heap.size, 10, none⟩ (.int .i64 0)).setCell ⟨w.heap.size, 11, none⟩ (.int .i64 0)).setCell ⟨w.heap.size, 12, none⟩ (.int .i64 0)).setCell ⟨w.heap.size, 13, none⟩ (.bool false)).cell? ⟨w.heap.size, 1, none⟩ = some (.int .i64 0) := by rw [Lib.cell_of_heap hW]; rfl
      have e2 : ((((((((((((((w8.setCell ⟨w.heap.size, 0, none⟩ (.int .i64 0)).setCell ⟨w.heap.size, 1, none⟩ (.int .i64 0)).setCell ⟨w.heap.size, 2, none⟩ (.int .i64 0)).setCell ⟨w.heap.size, 3, none⟩ (.int .i64 0)).setCell ⟨w.heap.size, 4, none⟩ (.int .i64 0)).setCell ⟨w.heap.size, 5, none⟩ (.int .i64 0)).setCell ⟨w.heap.size, 6, none⟩ (.int .i64 0)).setCell ⟨w.heap.size, 7, none⟩ (.slice none 0 0)).setCell ⟨w.heap.size, 8, none⟩ (.slice none 0 0)).setCell ⟨w.heap.size, 9, none⟩ (.int .i64 0)).setCell ⟨w.heap.size, 10, none⟩ (.int .i64 0)).setCell ⟨w.heap.size, 11, none⟩ (.int .i64 0)).setCell ⟨w.heap.size, 12, none⟩ (.int .i64 0)).setCell ⟨w.heap.size, 13, none⟩ (.bool false)).cell? ⟨w.heap.size, 2, none⟩ = some (.int .i64 0) := by rw [Lib.cell_of_heap hW]; rfl
      have e3 : ((((((((((((((w8.setCell ⟨w.heap.size, 0, none⟩ (.int .i64 0)).setCell ⟨w.heap.size, 1, none⟩ (.int .i64 0)).setCell ⟨w.heap.size, 2, none⟩ (.int .i64 0)).setCell ⟨w.heap.size, 3, none⟩ (.int .i64 0)).setCell ⟨w.heap.size, 4, none⟩ (.int .i64 0)).setCell ⟨w.heap.size, 5, none⟩ (.int .i64 0)).setCell ⟨w.heap.size, 6, none⟩ (.int .i64 0)).setCell ⟨w.heap.size, 7, none⟩ (.slice none 0 0)).setCell ⟨w.heap.size, 8, none⟩ (.slice none 0 0)).setCell ⟨w.heap.size, 9, none⟩ (.int .i64 0)).setCell ⟨w.heap.size, 10, none⟩ (.int .i64 0)).setCell ⟨w.heap.size, 11, none⟩ (.int .i64 0)).setCell ⟨w.heap.size, 12, none⟩ (.int .i64 0)).setCell ⟨w.heap.size, 13, none⟩ (.bool false)).cell? ⟨w.heap.size, 3, none⟩ = some (.int .i64 0) := by rw [Lib.cell_of_heap hW]; rfl
      have e4 : ((((((((((((((w8.setCell ⟨w.heap.size, 0, none⟩ (.int .i64 0)).setCell ⟨w.heap.size, 1, none⟩ (.int .i64 0)).setCell ⟨w.heap.size, 2, none⟩ (.int .i64 0)).setCell ⟨w.heap.size, 3, none⟩ (.int .i64 0)).setCell ⟨w.heap.size, 4, none⟩ (.int .i64 0)).setCell ⟨w.heap.size, 5, none⟩ (.int .i64 0)).setCell ⟨w.heap.size, 6, none⟩ (.int .i64 0)).setCell ⟨w.heap.size, 7, none⟩ (.slice none 0 0)).setCell ⟨w.heap.size, 8, none⟩ (.slice none 0 0)).setCell ⟨w.heap.size, 9, none⟩ (.int .i64 0)).setCell ⟨w.heap.size, 10, none⟩ (.int .i64 0)).setCell ⟨w.heap.size, 11, none⟩ (.int .i64 0)).setCell ⟨w.heap.size, 12, none⟩ (.int .i64 0)).setCell ⟨w.heap.size, 13, none⟩ (.bool false)).cell? ⟨w.heap.size, 4, none⟩ = some (.int .i64 0) := by rw [Lib.cell_of_heap hW]; rfl
      have e5 : ((((((((((((((w8.setCell ⟨w.heap.size, 0, none⟩ (.int .i64 0)).setCell ⟨w.heap.size, 1, none⟩ (.int .i64 0)).setCell ⟨w.heap.size, 2, none⟩ (.int .i64 0)).setCell ⟨w.heap.size, 3, none⟩ (.int .i64 0)).setCell ⟨w.heap.size, 4, none⟩ (.int .i64 0)).setCell ⟨w.heap.size, 5, none⟩ (.int .i64 0)).setCell ⟨w.heap.size, 6, none⟩ (.int .i64 0)).setCell ⟨w.heap.size, 7, none⟩ (.slice none 0 0)).setCell ⟨w.heap.size, 8, none⟩ (.slice none 0 0)).setCell ⟨w.heap.size, 9, none⟩ (.int .i64 0)).setCell ⟨w.heap.size, 10, none⟩ (.int .i64 0)).setCell ⟨w.heap.size, 11, none⟩ (.int .i64 0)).setCell ⟨w.heap.size, 12, none⟩ (.int .i64 0)).setCell ⟨w.heap.size, 13, none⟩ (.bool false)).cell? ⟨w.heap.size, 5, none⟩ = some (.int .i64 0) := by rw [Lib.cell_of_heap hW]; rfl
      have e6 : ((((((((((((((w8.setCell ⟨w.heap.size, 0, none⟩ (.int .i64 0)).setCell ⟨w.heap.size, 1, none⟩ (.int .i64 0)).setCell ⟨w.heap.size, 2, none⟩ (.int .i64 0)).setCell ⟨w.heap.size, 3, none⟩ (.int .i64 0)).setCell ⟨w.heap.size, 4, none⟩ (.int .i64 0)).setCell ⟨w.heap.size, 5, none⟩ (.int .i64 0)).setCell ⟨w.heap.size, 6, none⟩ (.int .i64 0)).setCell ⟨w.heap.size, 7, none⟩ (.slice none 0 0)).setCell ⟨w.heap.size, 8, none⟩ (.slice none 0 0)).setCell ⟨w.heap.size, 9, none⟩ (.int .i64 0)).setCell ⟨w.heap.size, 10, none⟩ (.int .i64 0)).setCell ⟨w.heap.size, 11, none⟩ (.int .i64 0)).setCell ⟨w.heap.size, 12, none⟩ (.int .i64 0)).setCell ⟨w.heap.size, 13, none⟩ (.bool false)).cell? ⟨w.heap.size, 6, none⟩ = some (.int .i64 0) := by rw [Lib.cell_of_heap hW]; rfl
      have e7 : ((((((((((((((w8.setCell ⟨w.heap.size, 0, none⟩ (.int .i64 0)).setCell ⟨w.heap.size, 1, none⟩ (.int .i64 0)).setCell ⟨w.heap.size, 2, none⟩ (.int .i64 0)).setCell ⟨w.heap.size, 3, none⟩ (.int .i64 0)).setCell ⟨w.heap.size, 4, none⟩ (.int .i64 0)).setCell ⟨w.heap.size, 5, none⟩ (.int .i64 0)).setCell ⟨w.heap.size, 6, none⟩ (.int .i64 0)).setCell ⟨w.heap.size, 7, none⟩ (.slice none 0 0)).setCell ⟨w.heap.size, 8, none⟩ (.slice none 0 0)).setCell ⟨w.heap.size, 9, none⟩ (.int .i64 0)).setCell ⟨w.heap.size, 10, none⟩ (.int .i64 0)).setCell ⟨w.heap.size, 11, none⟩ (.int .i64 0)).setCell ⟨w.heap.size, 12, none⟩ (.int .i64 0)).setCell ⟨w.heap.size, 13, none⟩ (.bool false)).cell? ⟨w.heap.size, 7, none⟩ = some (.slice none 0 0) := by rw [Lib.cell_of_heap hW]; rfl
      have e8 : ((((((((((((((w8.setCell ⟨w.heap.size, 0, none⟩ (.int .i64 0)).setCell ⟨w.heap.size, 1, none⟩ (.int .i64 0)).setCell ⟨w.heap.size, 2, none⟩ (.int .i64 0)).setCell ⟨w.heap.size, 3, none⟩ (.int .i64 0)).setCell ⟨w.heap.size, 4, none⟩ (.int .i64 0)).setCell ⟨w.heap.size, 5, none⟩ (.int .i64 0)).setCell ⟨w.heap.size, 6, none⟩ (.int .i64 0)).setCell ⟨w.heap.size, 7, none⟩ (.slice none 0 0)).setCell ⟨w.heap.size, 8, none⟩ (.slice none 0 0)).setCell ⟨w.heap.size, 9, none⟩ (.int .i64 0)).setCell ⟨w.heap.size, 10, none⟩ (.int .i64 0)).setCell ⟨w.heap.size, 11, none⟩ (.int .i64 0)).setCell ⟨w.heap.size, 12, none⟩ (.int .i64 0)).setCell ⟨w.heap.size, 13, none⟩ (.bool false)).cell? ⟨w.heap.size, 8, none⟩ = some (.slice none 0 0) := by rw [Lib.cell_of_heap hW]; rfl
      have e9 : ((((((((((((((w8.setCell ⟨w.heap.size, 0, none⟩ (.int .i64 0)).setCell ⟨w.heap.size, 1, none⟩ (.int .i64 0)).setCell ⟨w.heap.size, 2, none⟩ (.int .i64 0)).setCell ⟨w.heap.size, 3, none⟩ (.int .i64 0)).setCell ⟨w.heap.size, 4, none⟩ (.int .i64 0)).setCell ⟨w.heap.size, 5, none⟩ (.int .i64 0)).setCell ⟨w.heap.size, 6, none⟩ (.int .i64 0)).setCell ⟨w.heap.size, 7, none⟩ (.slice none 0 0)).setCell ⟨w.heap.size, 8, none⟩ (.slice none 0 0)).setCell ⟨w.heap.size, 9, none⟩ (.int .i64 0)).setCell ⟨w.heap.size, 10, none⟩ (.int .i64 0)).setCell ⟨w.heap.size, 11, none⟩ (.int .i64 0)).setCell ⟨w.heap.size, 12, none⟩ (.int .i64 0)).setCell ⟨w.heap.size, 13, none⟩ (.bool false)).cell? ⟨w.heap.size, 9, none⟩ = some (.int .i64 0) := by rw [Lib.cell_of_heap hW]; rfl
      have e10 : ((((((((((((((w8.setCell ⟨w.heap.size, 0, none⟩ (.int .i64 0)).setCell ⟨w.heap.size, 1, none⟩ (.int .i64 0)).setCell ⟨w.heap.size, 2, none⟩ (.int .i64 0)).setCell ⟨w.heap.size, 3, none⟩ (.int .i64 0)).setCell ⟨w.heap.size, 4, none⟩ (.int .i64 0)).setCell ⟨w.heap.size, 5, none⟩ (.int .i64 0)).setCell ⟨w.heap.size, 6, none⟩ (.int .i64 0)).setCell ⟨w.heap.size, 7, none⟩ (.slice none 0 0)).setCell ⟨w.heap.size, 8, none⟩ (.slice none 0 0)).setCell ⟨w.heap.size, 9, none⟩ (.int .i64 0)).setCell ⟨w.heap.size, 10, none⟩ (.int .i64 0)).setCell ⟨w.heap.size, 11, none⟩ (.int .i64 0)).setCell ⟨w.heap.size, 12, none⟩ (.int .i64 0)).setCell ⟨w.heap.size, 13, none⟩ (.bool false)).cell? ⟨w.heap.size, 10, none⟩ = some (.int .i64 0) := by rw [Lib.cell_of_heap hW]; rfl
      have e11 : ((((((((((((((w8.setCell ⟨w.heap.size, 0, none⟩ (.int .i64 0)).setCell ⟨w.heap.size, 1, none⟩ (.int .i64 0)).setCell ⟨w.heap.size, 2, none⟩ (.int .i64 0)).setCell ⟨w.heap.size, 3, none⟩ (.int .i64 0)).setCell ⟨w.heap.size, 4, none⟩ (.int .i64 0)).setCell ⟨w.heap.size, 5, none⟩ (.int .i64 0)).setCell ⟨w.heap.size, 6, none⟩ (.int .i64 0)).setCell ⟨w.heap.size, 7, none⟩ (.slice none 0 0)).setCell ⟨w.heap.size, 8, none⟩ (.slice none 0 0)).setCell ⟨w.heap.size, 9, none⟩ (.int .i64 0)).setCell ⟨w.heap.size, 10, none⟩ (.int .i64 0)).setCell ⟨w.heap.size, 11, none⟩ (.int .i64 0)).setCell ⟨w.heap.size, 12, none⟩ (.int .i64 0)).setCell ⟨w.heap.size, 13, none⟩ (.bool false)).cell? ⟨w.heap.size, 11, none⟩ = some (.int .i64 0) := by rw [Lib.cell_of_heap hW]; rfl
      have e12 : ((((((((((((((w8.setCell ⟨w.heap.size, 0, none⟩ (.int .i64 0)).setCell ⟨w.heap.size, 1, none⟩ (.int .i64 0)).setCell ⟨w.heap.size, 2, none⟩ (.int .i64 0)).setCell ⟨w.heap.size, 3, none⟩ (.int .i64 0)).setCell ⟨w.heap.size, 4, none⟩ (.int .i64 0)).setCell ⟨w.heap.size, 5, none⟩ (.int .i64 0)).setCell ⟨w.heap.size, 6, none⟩ (.int .i64 0)).setCell ⟨w.heap.size, 7, none⟩ (.slice none 0 0)).setCell ⟨w.heap.size, 8, none⟩ (.slice none 0 0)).setCell ⟨w.heap.size, 9, none⟩ (.int .i64 0)).setCell ⟨w.heap.size, 10, none⟩ (.int .i64 0)).setCell ⟨w.heap.size, 11, none⟩ (.int .i64 0)).setCell ⟨w.heap.size, 12, none⟩ (.int .i64 0)).setCell ⟨w.heap.size, 13, none⟩ (.bool false)).cell? ⟨w.heap.size, 12, none⟩ = some (.int .i64 0) := by rw [Lib.cell_of_heap hW]; rfl
      have e13 : ((((((((((((((w8.setCell ⟨w.heap.size, 0, none⟩ (.int .i64 0)).setCell ⟨w.heap.size, 1, none⟩ (.int .i64 0)).setCell ⟨w.heap.size, 2, none⟩ (.int .i64 0)).setCell ⟨w.heap.size, 3, none⟩ (.int .i64 0)).setCell ⟨w.heap.size, 4, none⟩ (.int .i64 0)).setCell ⟨w.heap.size, 5, none⟩ (.int .i64 0)).setCell ⟨w.heap.size, 6, none⟩ (.int .i64 0)).setCell ⟨w.heap.size, 7, none⟩ (.slice none 0 0)).setCell ⟨w.heap.size, 8, none⟩ (.slice none 0 0)).setCell ⟨w.heap.size, 9, none⟩ (.int .i64 0)).setCell ⟨w.heap.size, 10, none⟩ (.int .i64 0)).setCell ⟨w.heap.size, 11, none⟩ (.int .i64 0)).setCell ⟨w.heap.size, 12, none⟩ (.int .i64 0)).setCell ⟨w.heap.size, 13, none⟩ (.bool false)).cell? ⟨w.heap.size, 13, none⟩ = some (.bool false) := by rw [Lib.cell_of_heap hW]; rfl
      refine bodyPost_ret (v := .tuple #[.agg #[.int .i64 0, .int .i64 0, .int .i64 0, .int .i64 0, .int .i64 0, .int .i64 0, .int .i64 0, .slice none 0 0, .slice none 0 0, .int .i64 0, .int .i64 0, .int .i64 0, .int .i64 0, .bool false], .int .i64 6]) (by simp [results, Try.results66, go_sem, e0, e1, e2, e3, e4, e5, e6, e7, e8, e9, e10, e11, e12, e13]) rfl ?_
      rw [HDEF.out, if_pos HE.out]
      exact decOut_zero rfl ((((((((((((((hB8.setCell (Nat.le_refl _) _).setCell (Nat.le_refl _) _).setCell (Nat.le_refl _) _).setCell (Nat.le_refl _) _).setCell (Nat.le_refl _) _).setCell (Nat.le_refl _) _).setCell (Nat.le_refl _) _).setCell (Nat.le_refl _) _).setCell (Nat.le_refl _) _).setCell (Nat.le_refl _) _).setCell (Nat.le_refl _) _).setCell (Nat.le_refl _) _).setCell (Nat.le_refl _) _).setCell (Nat.le_refl _) _)
end MsgDecI
end Go.Proofs.Ytlpkkcodmoklaaa
