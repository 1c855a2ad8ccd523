/- The walks of the reference's encoding of lists, and of the law's comparison of lists. -/
import Derived.Test.YtlpkkcodmoklaaaWireWalksC
import Derived.Deep.QuietTactic
import Derived.BigQuiet
namespace Go.Proofs.Ytlpkkcodmoklaaa
open Go.RowKit
attribute [local go_sem] bs_size bs_get bs_append bs_extract bs_toList
set_option maxRecDepth 100000 in
theorem refInts_any (L : List Int) (v : Value) (w : World) (hL : L.length ≤ 1000000) (hI : I64 L) (hr : Rd w w.heap.size 1 v L.length (cellsI L)) :
    Calls Try.prog 55 #[v] w fun e w' => e = .returned (.string (bs (Wire.encL L))) ∧ Below w.heap.size w w' := by
  obtain ⟨_, A, cap, rfl, hA⟩ := hr
  have hel := Wire.enc_length L.length (by omega)
  go_enter Try.func55, Try.ntmps55
  go_wp2_with fail
  refine (refUint_any L.length _ (by omega)).mono ?_
  rintro e w1 ⟨rfl, hb1⟩
  go_wp2_with fail
  go_loopw [3, 4] (fun t i wr => ∃ k : Nat, k ≤ L.length ∧ i = .int .i64 k ∧ t = .string (bs (Wire.enc L.length ++ Wire.encIs (L.take k))) ∧ Below w.heap.size w wr) (fun _ i _ => (L.length - intOf i).toNat)
  case atStart => exact ⟨0, by omega, rfl, by simp [Wire.encIs], hb1⟩
  case round =>
    obtain ⟨k, hk, rfl, rfl, hbr⟩ := hrel
    have htl := encIs_take_len L k hI hL
    have hpl : (Wire.enc L.length ++ Wire.encIs (L.take k)).length ≤ 10000010 := by rw [List.length_append]; omega
    by_cases hlt : k < L.length
    · obtain ⟨b, off, rfl, hbB, hcell⟩ := hA (by omega)
      have hc := (hbr.cell (p := ⟨b, off + k, none⟩) hbB).trans (hcell k _ (cellsI_get hlt))
      have hts := encIs_take L k hlt
      have hIk := hI L[k] (List.getElem_mem hlt)
      have HT := Lib.hid hts
      clear hts hcell hA
      generalize hx : L[k] = x at hc HT hIk
      clear hx
      have hxl := Wire.encI_length x hIk
      obtain ⟨pre, hpre⟩ : ∃ pre, Wire.enc L.length ++ Wire.encIs (L.take k) = pre := ⟨_, rfl⟩
      rw [hpre] at hpl ⊢
      have HP := Lib.hid hpre
      clear hpre
      go_wp2_with fail
      refine (refInt_any x _ hIk.1 hIk.2).mono ?_
      rintro e w3 ⟨rfl, hb3⟩
      have hbr3 := hbr.trans (hb3.mono hbr.size)
      clear hbr hc
      go_wp2_with fail
      go_roundw
      case rel => exact ⟨k + 1, by omega, by go_num, by rw [HT.out, ← List.append_assoc, HP.out], hbr3⟩
      case measure => simp [intOf] <;> omega
    · have hta : L.take k = L := List.take_of_length_le (by omega)
      rw [hta]
      clear hta
      go_wp2_with fail
      go_ret
      exact ⟨rfl, hbr⟩
def sameB (a b : List Int) : Bool := decide (a = b)
theorem sameB_self (a : List Int) : sameB a a = true := by simp [sameB]
theorem same_any (a b : List Int) (u v : Value) (w : World) (_hL : a.length ≤ 9223372036854775807) (_hM : b.length ≤ 9223372036854775807) (hu : Rd w w.heap.size 1 u a.length (cellsI a)) (hv : Rd w w.heap.size 1 v b.length (cellsI b)) :
    Calls Try.prog 38 #[u, v] w fun e w' => e = .returned (.bool (sameB a b)) ∧ Below w.heap.size w w' := by
  obtain ⟨_, A, cap, rfl, hA⟩ := hu
  obtain ⟨_, B, cbp, rfl, hB⟩ := hv
  by_cases hl : a.length = b.length
  · have hne : ((a.length : Int) != (b.length : Int)) = false := by simp [hl]
    have hl1 : a.length ≤ b.length := by omega
    have hl2 : b.length ≤ a.length := by omega
    have HL := Lib.hid hl
    clear hl
    go_enter Try.func38, Try.ntmps38
    go_wp2_with fail
    go_loopw [13] (fun i wr => ∃ k q : Nat, k ≤ a.length ∧ i = .int .i64 k ∧ a.take k = b.take k ∧ wr = w.drewN q) (fun i _ => (a.length - intOf i).toNat)
    case atStart => exact ⟨0, 0, by omega, rfl, by simp, rfl⟩
    case round =>
      obtain ⟨k, q, hk, rfl, htk, rfl⟩ := hrel
      have HK := Lib.hid htk
      clear htk
      by_cases hlt : k < a.length
      · have hlb : k < b.length := by omega
        obtain ⟨p, off, rfl, hp, hcell⟩ := hA (by omega)
        obtain ⟨p', off', rfl, hp', hcell'⟩ := hB (by omega)
        have hc : (w.drewN q).cell? ⟨p, off + k, none⟩ = some (.int .i64 a[k]) := hcell k _ (cellsI_get hlt)
        have hc' : (w.drewN q).cell? ⟨p', off' + k, none⟩ = some (.int .i64 b[k]) := hcell' k _ (cellsI_get hlb)
        have hc2 : w.cell? ⟨p, off + k, none⟩ = some (.int .i64 a[k]) := hcell k _ (cellsI_get hlt)
        have hc2' : w.cell? ⟨p', off' + k, none⟩ = some (.int .i64 b[k]) := hcell' k _ (cellsI_get hlb)
        have hta : a.take (k + 1) = a.take k ++ [a[k]] := List.take_succ_eq_append_getElem hlt
        have htb : b.take (k + 1) = b.take k ++ [b[k]] := List.take_succ_eq_append_getElem hlb
        have hda : a[k]? = some a[k] := List.getElem?_eq_getElem hlt
        have hdb : b[k]? = some b[k] := List.getElem?_eq_getElem hlb
        have HA := Lib.hid hta
        have HB := Lib.hid htb
        have HDA := Lib.hid hda
        have HDB := Lib.hid hdb
        clear hta htb hcell hcell' hA hB hda hdb
        generalize a[k] = x at hc hc2 HA HDA
        generalize b[k] = y at hc' hc2' HB HDB
        have hki : (k : Int) < (a.length : Int) := by omega
        have hki2 : (k : Int) < (b.length : Int) := by omega
        by_cases hxy : x = y
        · have hb1 : (x != y) = false := by simp [hxy]
          have HX := Lib.hid hxy
          clear hxy
          go_wp2_with fail
          go_quiet (fail)
          go_wp2_with fail
          go_roundw
          case rel => exact ⟨k + 1, _, by omega, by go_num, by rw [HA.out, HB.out, HK.out, HX.out], rfl⟩
          case measure => simp [intOf] <;> omega
        · have hb1 : (x != y) = true := by simp [hxy]
          have hf : sameB a b = false := by
            unfold sameB
            rw [decide_eq_false_iff_not]
            intro e
            apply hxy
            have h1 := HDA.out
            rw [e, HDB.out] at h1
            exact (Option.some.inj h1).symm
          have HF := Lib.hid hf
          clear hxy hf
          go_wp2_with fail
          go_quiet (fail)
          go_wp2_with fail
          go_ret
          exact ⟨ret_v (by rw [HF.out]; rfl), Below.drewN (Below.drewN (Below.refl _ _) _) _⟩
      · have hf : sameB a b = true := by
          unfold sameB
          rw [decide_eq_true_eq]
          have h1 := HK.out
          rwa [List.take_of_length_le (by omega), List.take_of_length_le (by omega)] at h1
        have HF := Lib.hid hf
        clear hf
        go_wp2_with fail
        go_ret
        exact ⟨ret_v (by rw [HF.out]; rfl), Below.drewN (Below.refl _ _) _⟩
  · have hne : ((a.length : Int) != (b.length : Int)) = true := by rw [bne_iff_ne]; omega
    have hf : sameB a b = false := by
      unfold sameB
      rw [decide_eq_false_iff_not]
      intro e
      exact hl (by rw [e])
    have HF := Lib.hid hf
    clear hl hf
    go_enter Try.func38, Try.ntmps38
    go_wp2_with fail
    go_ret
    exact ⟨ret_v (by rw [HF.out]; rfl), Below.refl _ _⟩
end Go.Proofs.Ytlpkkcodmoklaaa
