/- The walks of wire.TakeInt and TakeBool, and the reference's TakeBool. -/
import Derived.Test.YtlpkkcodmoklaaaWireWalksF
namespace Go.Proofs.Ytlpkkcodmoklaaa
open Go.RowKit
attribute [local go_sem] bs_size bs_get bs_append bs_extract bs_toList
theorem ret3_fst {k : IntKind} {b z : Value} {x y : Int} (h : x = y) : Ending.returned (.tuple #[.int k x, b, z]) = .returned (.tuple #[.int k y, b, z]) := by rw [h]
theorem ret3_bool {b z : Value} {x y : Bool} (h : x = y) : Ending.returned (.tuple #[.bool x, b, z]) = .returned (.tuple #[.bool y, b, z]) := by rw [h]
theorem takeInt_any (l : List UInt8) (at' : Int) (w : World) (hs : l.length ≤ 140737488351232) (h1 : -9223372036854775808 ≤ at') (h2 : at' ≤ 9223372036854775807) :
    Calls Try.prog 45 #[.string (bs l), .int .i64 at'] w fun e w' => e = .returned (.tuple #[.int .i64 (Wire.takeI l at').1, .int .i64 (Wire.takeI l at').2.1, .int .i64 (Wire.takeI l at').2.2]) ∧ Below w.heap.size w w' := by
  obtain ⟨u, nx, er, ht⟩ : ∃ u nx er, Wire.takeU l at' = (u, nx, er) := ⟨_, _, _, rfl⟩
  have hti : Wire.takeI l at' = if er = 0 then (Wire.zag u, nx, 0) else (0, 0, er) := by unfold Wire.takeI; rw [ht]
  have hu : u < 18446744073709551616 := by
    rcases Wire.takeU_err l at' with h | h
    · have := Wire.takeU_exact h
      rw [ht] at this
      exact this.2.2.2.2.1
    · rw [ht] at h
      have := h.1
      simp only at this
      omega
  have HT := Lib.hid ht
  have HI := Lib.hid hti
  clear ht hti
  go_enter Try.func45, Try.ntmps45
  go_wp2_with fail
  refine (takeUint_any l at' _ hs h1 h2).mono ?_
  rw [HT.out]
  rintro e w1 ⟨rfl, hb⟩
  by_cases he : er = 0
  · have hbe : (er != 0) = false := by rw [he]; rfl
    have HE := Lib.hid he
    clear he
    have ha : bits .and .u64 (u : Int) 1 = (u : Int) % 2 := by
      have := u64_and_nat u 1 hu (by omega)
      rw [nat_mask1] at this
      simpa using this
    by_cases hodd : u % 2 = 1
    · have hb1 : ((u : Int) % 2 == 1) = true := by rw [beq_iff_eq]; omega
      have hz : Wire.zag u = -((u / 2 : Nat) : Int) - 1 := by unfold Wire.zag; rw [if_pos hodd]
      have HZ := Lib.hid hz
      clear hz hodd
      go_wp2_with fail
      go_ret3
      exact ⟨by rw [HI.out, if_pos HE.out, HZ.out]; exact ret3_fst (by show _ = -((u / 2 : Nat) : Int) - 1; omega), hb⟩
    · have hb1 : ((u : Int) % 2 == 1) = false := by rw [beq_eq_false_iff_ne]; omega
      have hz : Wire.zag u = ((u / 2 : Nat) : Int) := by unfold Wire.zag; rw [if_neg hodd]
      have HZ := Lib.hid hz
      clear hz hodd
      go_wp2_with fail
      go_ret3
      exact ⟨by rw [HI.out, if_pos HE.out, HZ.out]; exact ret3_fst (by show _ = ((u / 2 : Nat) : Int); omega), hb⟩
  · have hbe : (er != 0) = true := by rw [bne_iff_ne]; exact he
    have HE := Lib.hid he
    clear he
    go_wp2_with fail
    go_ret3
    exact ⟨by rw [HI.out, if_neg HE.out]; rfl, hb⟩
theorem takeBool_any (l : List UInt8) (at' : Int) (w : World) (hs : l.length ≤ 140737488351232) :
    Calls Try.prog 48 #[.string (bs l), .int .i64 at'] w fun e w' => e = .returned (.tuple #[.bool (Wire.takeB l at').1, .int .i64 (Wire.takeB l at').2.1, .int .i64 (Wire.takeB l at').2.2]) ∧ w = w' := by
  by_cases hneg : at' < 0
  · have ho : Wire.takeB l at' = (false, 0, 1) := by unfold Wire.takeB; rw [if_pos (Or.inl hneg)]
    have HO := Lib.hid ho
    clear ho
    go_enter Try.func48, Try.ntmps48
    go_wp2_with fail
    go_ret3
    exact ⟨by rw [HO.out]; rfl, rfl⟩
  · by_cases hbig : (l.length : Int) < at'
    · have ho : Wire.takeB l at' = (false, 0, 1) := by unfold Wire.takeB; rw [if_pos (Or.inr hbig)]
      have HO := Lib.hid ho
      clear ho
      go_enter Try.func48, Try.ntmps48
      go_wp2_with fail
      go_ret3
      exact ⟨by rw [HO.out]; rfl, rfl⟩
    · obtain ⟨a, rfl⟩ := Int.eq_ofNat_of_zero_le (show 0 ≤ at' by omega)
      have hal : a ≤ l.length := by omega
      have ho : Wire.takeB l (a : Int) = if (a : Int) = l.length then (false, 0, 5) else if 1 < (l.getD a 0).toNat then (false, 0, 4) else ((l.getD a 0).toNat == 1, (a : Int) + 1, 0) := by unfold Wire.takeB; rw [if_neg (by omega)]; rfl
      by_cases hend : a = l.length
      · have hb : ((a : Int) == (l.length : Int)) = true := by rw [beq_iff_eq]; omega
        rw [if_pos (by omega)] at ho
        have HO := Lib.hid ho
        clear ho hend
        go_enter Try.func48, Try.ntmps48
        go_wp2_with fail
        go_ret3
        exact ⟨by rw [HO.out]; rfl, rfl⟩
      · have hb : ((a : Int) == (l.length : Int)) = false := by rw [beq_eq_false_iff_ne]; omega
        have hlt : a < l.length := by omega
        rw [if_neg (by omega)] at ho
        have hg : l.getD a 0 = l[a] := by simp [hlt]
        rw [hg] at ho
        generalize hc : l[a] = c at ho
        have hc2 := c.toNat_lt
        by_cases h1 : 1 < c.toNat
        · rw [if_pos h1] at ho
          have HO := Lib.hid ho
          clear ho hend hg
          go_enter Try.func48, Try.ntmps48
          go_wp2_with fail
          go_ret3
          exact ⟨by rw [HO.out]; rfl, rfl⟩
        · rw [if_neg h1] at ho
          have hbb : ((c.toNat : Int) == 1) = (c.toNat == 1) := by
            rw [Bool.eq_iff_iff, beq_iff_eq, beq_iff_eq]; omega
          have HO := Lib.hid ho
          have HB := Lib.hid hbb
          clear ho hend hg hbb
          go_enter Try.func48, Try.ntmps48
          go_wp2_with fail
          go_ret3
          exact ⟨by rw [HO.out]; exact ret3_bool HB.out, rfl⟩
theorem refTakeBool_any (l : List UInt8) (at' : Int) (w : World) (hs : l.length ≤ 140737488351232) :
    Calls Try.prog 49 #[.string (bs l), .int .i64 at'] w fun e w' => e = .returned (.tuple #[.bool (Wire.takeB l at').1, .int .i64 (Wire.takeB l at').2.1, .int .i64 (Wire.takeB l at').2.2]) ∧ w = w' := by
  by_cases hneg : at' < 0
  · have ho : Wire.takeB l at' = (false, 0, 1) := by unfold Wire.takeB; rw [if_pos (Or.inl hneg)]
    have HO := Lib.hid ho
    clear ho
    go_enter Try.func49, Try.ntmps49
    go_wp2_with fail
    go_ret3
    exact ⟨by rw [HO.out]; rfl, rfl⟩
  · by_cases hbig : (l.length : Int) < at'
    · have ho : Wire.takeB l at' = (false, 0, 1) := by unfold Wire.takeB; rw [if_pos (Or.inr hbig)]
      have HO := Lib.hid ho
      clear ho
      go_enter Try.func49, Try.ntmps49
      go_wp2_with fail
      go_ret3
      exact ⟨by rw [HO.out]; rfl, rfl⟩
    · obtain ⟨a, rfl⟩ := Int.eq_ofNat_of_zero_le (show 0 ≤ at' by omega)
      have hal : a ≤ l.length := by omega
      have ho : Wire.takeB l (a : Int) = if (a : Int) = l.length then (false, 0, 5) else if 1 < (l.getD a 0).toNat then (false, 0, 4) else ((l.getD a 0).toNat == 1, (a : Int) + 1, 0) := by unfold Wire.takeB; rw [if_neg (by omega)]; rfl
      by_cases hend : a = l.length
      · have hb : ((a : Int) == (l.length : Int)) = true := by rw [beq_iff_eq]; omega
        rw [if_pos (by omega)] at ho
        have HO := Lib.hid ho
        clear ho hend
        go_enter Try.func49, Try.ntmps49
        go_wp2_with fail
        go_ret3
        exact ⟨by rw [HO.out]; rfl, rfl⟩
      · have hb : ((a : Int) == (l.length : Int)) = false := by rw [beq_eq_false_iff_ne]; omega
        have hlt : a < l.length := by omega
        rw [if_neg (by omega)] at ho
        have hg : l.getD a 0 = l[a] := by simp [hlt]
        rw [hg] at ho
        generalize hc : l[a] = c at ho
        have hc2 := c.toNat_lt
        by_cases h1 : 1 < c.toNat
        · rw [if_pos h1] at ho
          have HO := Lib.hid ho
          clear ho hend hg
          go_enter Try.func49, Try.ntmps49
          go_wp2_with fail
          go_ret3
          exact ⟨by rw [HO.out]; rfl, rfl⟩
        · rw [if_neg h1] at ho
          have hbb : ((c.toNat : Int) == 1) = (c.toNat == 1) := by
            rw [Bool.eq_iff_iff, beq_iff_eq, beq_iff_eq]; omega
          have HO := Lib.hid ho
          have HB := Lib.hid hbb
          clear ho hend hg hbb
          go_enter Try.func49, Try.ntmps49
          go_wp2_with fail
          go_ret3
          exact ⟨by rw [HO.out]; exact ret3_bool HB.out, rfl⟩
end Go.Proofs.Ytlpkkcodmoklaaa
