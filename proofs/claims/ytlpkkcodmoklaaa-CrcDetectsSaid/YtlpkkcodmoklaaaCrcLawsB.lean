/- The walk of the law CrcDetects. -/
import Derived.Test.YtlpkkcodmoklaaaCrcAlive
namespace Go.Proofs.Ytlpkkcodmoklaaa
open Go.RowKit
attribute [local go_sem] bs_size bs_get bs_append bs_extract bs_toList bs_nil
theorem and65535 (a : Int) : ∃ m : Nat, m < 65536 ∧ bits .and .i64 a 65535 = (m : Int) := by
  refine ⟨(BitVec.ofInt 64 a &&& BitVec.ofInt 64 65535).toNat, ?_, ?_⟩
  · rw [BitVec.toNat_and]
    exact Nat.lt_of_le_of_lt Nat.and_le_right (by decide)
  · have h : (BitVec.ofInt 64 a &&& BitVec.ofInt 64 65535).toNat < 65536 := by
      rw [BitVec.toNat_and]
      exact Nat.lt_of_le_of_lt Nat.and_le_right (by decide)
    show IntKind.i64.wrap ((BitVec.ofInt 64 a &&& BitVec.ofInt 64 65535).toNat : Int) = _
    rw [IntKind.wrap_i64]
    omega
theorem openV_not {l : List UInt8} (h4 : 4 ≤ l.length) (h : Crc.opens l = false) : openV l = (bs [], 6) := by
  unfold openV
  rw [if_neg (by omega), if_neg]
  intro e
  have : Crc.opens l = true := by unfold Crc.opens; simp [h4, ← e]
  rw [h] at this
  cases this
set_option maxRecDepth 100000 in
theorem crcDetects_any (l : List UInt8) (at' : Int) (c : UInt8) (w : World) (hs : l.length ≤ maxLen) :
    Calls Try.prog 5 #[.string (bs l), .int .i64 at', .int .u8 c.toNat] w fun e w' => e = .returned (.bool true) ∧ Below w.heap.size w w' := by
  unfold maxLen at hs
  by_cases hl : 3000 < l.length
  · go_enter Try.func5, Try.ntmps5
    go_wp2_with fail
    refine (alive04 _).mono ?_
    rintro e w1 ⟨rfl, hb1⟩
    go_wp2_with fail
    go_ret
    exact ⟨rfl, hb1⟩
  · have hsl := Crc.sealed_length l
    have hchg := Crc.changed_not_sealed l
    have hos := openV_sealed l
    have HO := Lib.hid hos
    have HC := Lib.hid hchg
    clear hchg hos
    go_enter Try.func5, Try.ntmps5
    go_wp2_with fail
    refine (seal_any l _ (by omega)).mono ?_
    rintro e w1 ⟨rfl, hb1⟩
    have hl1 : (Crc.sealed l).length ≤ l.length + 4 := by omega
    have hl2 : l.length + 4 ≤ (Crc.sealed l).length := by omega
    clear hsl
    generalize Crc.sealed l = t at hl1 hl2 HO HC
    obtain ⟨cap, w2, hcv, hcap, hb2, hsz, hcell, hfr⟩ := bytes_of (P := Try.prog) w1 t Try.underlying9 Try.underlying30 Try.underlying5
    have HZ := Lib.hid hsz
    clear hsz
    obtain ⟨m, hm, hand⟩ := and65535 at'
    have hi : m % t.length < t.length := Nat.mod_lt _ (by omega)
    have hmod : ((m : Int) % (t.length : Int)) = ((m % t.length : Nat) : Int) := by omega
    generalize m % t.length = i at hi hmod
    have hci := hcell i t[i] (List.getElem?_eq_getElem hi)
    have hfi := hfr i hi
    have hcs : ∀ j x, (t.set i c)[j]? = some x → (w2.setCell ⟨w1.heap.size, i, none⟩ (.int .u8 (c.toNat : Int))).cell? ⟨w1.heap.size, j, none⟩ = some (.int .u8 (x.toNat : Int)) := by
      intro j x hj
      by_cases hji : i = j
      · subst hji
        rw [List.getElem?_set_self hi] at hj
        obtain rfl : c = x := by simpa using hj
        exact World.cell?_setCell_same _ _ _ hci
      · rw [List.getElem?_set_ne hji] at hj
        rw [World.cell?_setCell_other _ _ _ _ (by intro e; exact hji (by injection e))]
        exact hcell j x hj
    have hcv2 := conv_cells (P := Try.prog) (w2.setCell ⟨w1.heap.size, i, none⟩ (.int .u8 (c.toNat : Int))) Try.underlying30 Try.underlying5 Try.underlying9 w1.heap.size t.length cap (t.set i c) (by simp) hcs
    have hlen2 : (t.set i c).length ≤ 100000 := by rw [List.length_set]; omega
    have hb3 : Below w1.heap.size w1 (w2.setCell ⟨w1.heap.size, i, none⟩ (.int .u8 (c.toNat : Int))) := hb2.setCell (Nat.le_refl _) _
    clear hcs hcell hfr
    by_cases hsame : t[i] = c
    · have ho : openV (t.set i c) = (bs l, 0) := by
        have : t.set i c = t := by rw [← hsame]; exact List.set_getElem_self hi
        rw [this]; exact HO.out
      have hcc : ((t[i].toNat : Int) == (c.toNat : Int)) = true := by rw [hsame]; simp
      generalize t.set i c = u at hcv2 hlen2 ho
      have HU := Lib.hid ho
      clear ho hsame
      go_wp2_with fail
      refine (open_any u _ hlen2).mono ?_
      rw [HU.out]
      rintro e w4 ⟨rfl, hb4⟩
      go_wp2_with fail
      refine (alive04 _).mono ?_
      rintro e w5 ⟨rfl, hb5⟩
      go_wp2_with fail
      go_ret
      exact ⟨rfl, bthen (bthen (bthen hb1 hb3) hb4) hb5⟩
    · have ho : openV (t.set i c) = (bs [], 6) := openV_not (by rw [List.length_set]; omega) (HC.out i c hi hsame)
      have hcc : ((t[i].toNat : Int) == (c.toNat : Int)) = false := by
        rw [beq_eq_false_iff_ne]
        intro e
        exact hsame (UInt8.toNat_inj.1 (by omega))
      generalize t.set i c = u at hcv2 hlen2 ho
      have HU := Lib.hid ho
      clear ho hsame
      go_wp2_with fail
      refine (open_any u _ hlen2).mono ?_
      rw [HU.out]
      rintro e w4 ⟨rfl, hb4⟩
      go_wp2_with fail
      refine (alive04 _).mono ?_
      rintro e w5 ⟨rfl, hb5⟩
      go_wp2_with fail
      go_ret
      exact ⟨rfl, bthen (bthen (bthen hb1 hb3) hb4) hb5⟩
end Go.Proofs.Ytlpkkcodmoklaaa
