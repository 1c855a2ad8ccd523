/- The walks of the writing of numbers, of the program and of the reference. -/
import Derived.Test.YtlpkkcodmoklaaaBuilder
import Derived.Test.YtlpkkcodmoklaaaMsgPlain
import Derived.Test.YtlpkkcodmoklaaaWireWalksD
namespace Go.Proofs.Ytlpkkcodmoklaaa
set_option linter.unusedVariables false
set_option linter.unusedSimpArgs false
open Go.RowKit
attribute [local go_sem] bs_size bs_get bs_append bs_extract bs_toList
theorem encIs_snoc (L : List Int) (n : Int) : Wire.encIs (L ++ [n]) = Wire.encIs L ++ Wire.encI n := by
  rw [Wire.encIs_append]; simp [Wire.encIs]
set_option maxRecDepth 100000 in
theorem write_any (B b g : Nat) (l : List UInt8) (L : List Int) (w : World) (h : Bld B b l w) (hBw : B ≤ w.heap.size) (hg : w.heap[g]? = some (.cells (cellsI L).toArray 3 (0, 0))) (hgb : g ≠ b) (hI : I64 L) (hL : L.length ≤ 10) (hl : l.length ≤ 1000000) :
    Calls Try.prog 79 #[.slice (some ⟨g, 0, none⟩) L.length L.length, .pointer (some ⟨b, 0, none⟩)] w fun e w' => e = .returned (.tuple #[]) ∧ Bld B b (l ++ Wire.encIs L) w' ∧ Below B w w' ∧ Others b w w' := by
  go_enter Try.func79, Try.ntmps79
  go_wp2_with fail
  go_loopw [7] (fun i wr => ∃ k : Nat, k ≤ L.length ∧ i = .int .i64 k ∧ Bld B b (l ++ Wire.encIs (L.take k)) wr ∧ Below B w wr ∧ Others b w wr) (fun i _ => (L.length - intOf i).toNat)
  case atStart => exact ⟨0, by omega, rfl, by simpa [Wire.encIs] using h, Below.refl _ _, Others.refl _ _⟩
  case round =>
    obtain ⟨k, hk, rfl, hbl, hbr, hor⟩ := hrel
    have hz := hbr.size
    by_cases hlt : k < L.length
    · have hc : wr.cell? ⟨g, k, none⟩ = some (.int .i64 L[k]) := by
        rw [Lib.cell_of_heap (hor g _ _ _ hgb hg (by decide))]
        simp [cellsI, hlt]
      have HT := Lib.hid (encIs_take L k hlt)
      have hIk := hI L[k] (List.getElem_mem hlt)
      have hlen : (Wire.encIs (L.take k)).length ≤ 100 := by
        have h1 := Wire.encIs_length (L.take k) (fun n hn => hI n (List.mem_of_mem_take hn))
        have h2 : (L.take k).length ≤ L.length := by rw [List.length_take]; omega
        omega
      clear hg
      generalize L[k] = x at hc HT hIk
      generalize Wire.encIs (L.take k) = pre at hbl hlen HT
      have hxl := Wire.encI_length x hIk
      go_wp2_with fail
      refine (int_any x _ hIk.1 hIk.2).mono ?_
      rintro e w3 ⟨rfl, hb3⟩
      have hbl3 : Bld B b (l ++ pre) w3 := bld_below hbl hb3
      have hbr3 := hbr.trans (hb3.mono (by omega))
      have hor3 := hor.trans (Others.below (b := b) hb3)
      have hz3 := hbr3.size
      clear hbl hbr hc hor hb3
      go_wp2_with fail
      refine (writeString_any B b (l ++ pre) (Wire.encI x) _ hbl3 (by rw [List.length_append]; omega) (by omega)).mono ?_
      rintro e w4 ⟨rfl, hbl4, hb4, ho4⟩
      go_wp2_with fail
      go_roundw
      case rel => exact ⟨k + 1, by omega, by go_num, by rw [HT.out, ← List.append_assoc]; exact hbl4, hbr3.trans hb4, hor3.trans ho4⟩
      case measure => simp [intOf] <;> omega
    · have hta : L.take k = L := List.take_of_length_le (by omega)
      rw [hta] at hbl
      clear hta
      go_wp2_with fail
      go_end0
      exact ⟨rfl, hbl, hbr, hor⟩
set_option maxRecDepth 100000 in
theorem rints_any (L : List Int) (A : Option Addr) (c : Nat) (w : World) (hI : I64 L) (hL : L.length ≤ 10) (hr : Rd w w.heap.size 1 (.slice A L.length c) L.length (cellsI L)) :
    Calls Try.prog 93 #[.slice A L.length c] w fun e w' => e = .returned (.string (bs (Wire.encIs L))) ∧ Below w.heap.size w w' := by
  obtain ⟨_, A', cap, heq, hA⟩ := hr
  simp only [Value.slice.injEq] at heq
  obtain ⟨rfl, -, rfl⟩ := heq
  go_enter Try.func93, Try.ntmps93
  go_wp2_with fail
  go_loopw [3, 8] (fun s i wr => ∃ k : Nat, k ≤ L.length ∧ i = .int .i64 k ∧ s = .string (bs (Wire.encIs (L.take k))) ∧ Below w.heap.size w wr) (fun _ i _ => (L.length - intOf i).toNat)
  case atStart => exact ⟨0, by omega, rfl, rfl, Below.refl _ _⟩
  case round =>
    obtain ⟨k, hk, rfl, rfl, hbr⟩ := hrel
    have hz := hbr.size
    by_cases hlt : k < L.length
    · obtain ⟨p, off, rfl, hbB, hcell⟩ := hA (by omega)
      have hc := (hbr.cell (p := ⟨p, off + k, none⟩) hbB).trans (hcell k _ (cellsI_get hlt))
      have HT := Lib.hid (encIs_take L k hlt)
      have hIk := hI L[k] (List.getElem_mem hlt)
      have hlen : (Wire.encIs (L.take k)).length ≤ 100 := by
        have h1 := Wire.encIs_length (L.take k) (fun n hn => hI n (List.mem_of_mem_take hn))
        have h2 : (L.take k).length ≤ L.length := by rw [List.length_take]; omega
        omega
      clear hA hcell
      generalize L[k] = x at hc HT hIk
      generalize Wire.encIs (L.take k) = pre at hlen HT ⊢
      have hxl := Wire.encI_length x hIk
      go_wp2_with fail
      refine (refInt_any x _ hIk.1 hIk.2).mono ?_
      rintro e w3 ⟨rfl, hb3⟩
      have hbr3 := hbr.trans (hb3.mono hbr.size)
      clear hbr hc
      go_wp2_with fail
      go_roundw
      case rel => exact ⟨k + 1, by omega, by go_num, by rw [HT.out], hbr3⟩
      case measure => simp [intOf] <;> omega
    · have hta : L.take k = L := List.take_of_length_le (by omega)
      rw [hta]
      clear hta
      go_wp2_with fail
      go_ret
      exact ⟨rfl, hbr⟩
end Go.Proofs.Ytlpkkcodmoklaaa
