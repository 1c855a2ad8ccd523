/- The walk of the encoding of lists. -/
import Derived.Test.YtlpkkcodmoklaaaWireWalksB
import Derived.Test.YtlpkkcodmoklaaaOwnC
import Derived.Test.YtlpkkcodmoklaaaRd
namespace Go.Proofs.Ytlpkkcodmoklaaa
open Go.RowKit
attribute [local go_sem] bs_size bs_get bs_append bs_extract bs_toList
def I64 (L : List Int) : Prop := ∀ n ∈ L, -9223372036854775808 ≤ n ∧ n ≤ 9223372036854775807
theorem encIs_take (L : List Int) (k : Nat) (h : k < L.length) : Wire.encIs (L.take (k + 1)) = Wire.encIs (L.take k) ++ Wire.encI L[k] := by
  rw [List.take_succ_eq_append_getElem h, Wire.encIs_append]
  simp [Wire.encIs]
theorem encIs_take_len (L : List Int) (k : Nat) (hI : I64 L) (hL : L.length ≤ 1000000) : (Wire.encIs (L.take k)).length ≤ 10000000 := by
  have := Wire.encIs_length (L.take k) (fun n hn => hI n (List.mem_of_mem_take hn))
  have h2 : (L.take k).length ≤ L.length := by rw [List.length_take]; omega
  omega
set_option maxRecDepth 100000 in
theorem ints_any (L : List Int) (v : Value) (w : World) (hL : L.length ≤ 1000000) (hI : I64 L) (hr : Rd w w.heap.size 1 v L.length (cellsI L)) :
    Calls Try.prog 43 #[v] w fun e w' => e = .returned (.string (bs (Wire.encL L))) ∧ Below w.heap.size w w' := by
  obtain ⟨i0, hi, hz0, hz1, hz2⟩ := info_parts info5c
  obtain ⟨_, A, cap, rfl, hA⟩ := hr
  have hel := Wire.enc_length L.length (by omega)
  go_enter Try.func43, Try.ntmps43
  go_wp2_with fail
  refine (uint_any L.length _ (by omega)).mono ?_
  rintro e w1 ⟨rfl, hb1⟩
  obtain ⟨v1, w2, hcv, hown, hb2⟩ := bytes_ofC (P := Try.prog) w1 (Wire.enc L.length) Try.underlying9 Try.underlying30 Try.underlying5
  have hbw : Below w.heap.size w w2 := bthen hb1 hb2
  have hown1 : OwnC w2 w.heap.size v1 (Wire.enc L.length) := by
    obtain ⟨g, cap, hv, h1, h⟩ := hown
    exact ⟨g, cap, hv, Nat.le_trans hb1.size h1, h⟩
  clear hown hb2
  go_wp2_with fail
  go_loopw [3, 13] (fun t i wr => ∃ k : Nat, k ≤ L.length ∧ i = .int .i64 k ∧ OwnC wr w.heap.size t (Wire.enc L.length ++ Wire.encIs (L.take k)) ∧ Below w.heap.size w wr) (fun _ i _ => (L.length - intOf i).toNat)
  case atStart => exact ⟨0, by omega, rfl, by simpa [Wire.encIs] using hown1, hbw⟩
  case round =>
    obtain ⟨k, hk, rfl, hown, hbr⟩ := hrel
    by_cases hlt : k < L.length
    · obtain ⟨b, off, rfl, hbB, hcell⟩ := hA (by omega)
      have hc := (hbr.cell (p := ⟨b, off + k, none⟩) hbB).trans (hcell k _ (cellsI_get hlt))
      have hts := encIs_take L k hlt
      have htl := encIs_take_len L k hI hL
      have hIk := hI L[k] (List.getElem_mem hlt)
      have HT := Lib.hid hts
      clear hts hcell hA
      generalize hx : L[k] = x at hc HT hIk
      clear hx
      have hxl := Wire.encI_length x hIk
      go_wp2_with fail
      refine (int_any x _ hIk.1 hIk.2).mono ?_
      rintro e w3 ⟨rfl, hb3⟩
      have hown3 := hown.below hb3
      have hbr3 := hbr.trans (hb3.mono hbr.size)
      clear hown hbr hc
      go_wp2_with (at_builtin; refine wpList_append_strC _ rfl (.tmp 17) (.tmp 19) 30 9 rfl w.heap.size 5 i0 Try.underlying30 Try.underlying9 hi hz0 hz1 hz2 _ _ rfl hown3 _ rfl (by rw [List.length_append]; omega) hbr3.size ?_; intro v' w' hown' hkeep)
      go_roundw
      case rel => exact ⟨k + 1, by omega, by go_num, by rw [HT.out, ← List.append_assoc]; exact hown', hkeep _ _ (Nat.le_refl _) hbr3⟩
      case measure => simp [intOf] <;> omega
    · have hta : L.take k = L := List.take_of_length_le (by omega)
      have hcv2 := conv_ownC (P := Try.prog) wr Try.underlying30 Try.underlying5 Try.underlying9 hown
      rw [hta] at hcv2
      clear hta
      go_wp2_with fail
      go_ret
      exact ⟨rfl, hbr⟩
end Go.Proofs.Ytlpkkcodmoklaaa
