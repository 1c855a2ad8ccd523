/- The walks of the reference's TakeInt, and of TakeCount and TakeText of the program and of the reference. -/
import Derived.Test.YtlpkkcodmoklaaaWireWalksH
import Derived.Test.YtlpkkcodmoklaaaWireWalksG
import Derived.Test.YtlpkkcodmoklaaaWirePlainB
namespace Go.Proofs.Ytlpkkcodmoklaaa
open Go.RowKit
attribute [local go_sem] bs_size bs_get bs_append bs_extract bs_toList
theorem refTakeUintB_any (l : List UInt8) (at' : Int) (w : World) (hs : l.length ≤ 140737488351232) (h1 : -9223372036854775808 ≤ at') (h2 : at' ≤ 9223372036854775807) :
    Calls Try.prog 46 #[.string (bs l), .int .i64 at'] w fun e w' => e = .returned (.tuple #[.int .u64 ((Wire.takeU l at').1 : Nat), .int .i64 (Wire.takeU l at').2.1, .int .i64 (Wire.takeU l at').2.2]) ∧ Below w.heap.size w w' :=
  (refTakeUint_any l at' w hs h1 h2).mono fun _ _ ⟨h, hw⟩ => ⟨h, hw ▸ Below.refl _ _⟩
theorem refTakeInt_any (l : List UInt8) (at' : Int) (w : World) (hs : l.length ≤ 140737488351232) (h1 : -9223372036854775808 ≤ at') (h2 : at' ≤ 9223372036854775807) :
    Calls Try.prog 47 #[.string (bs l), .int .i64 at'] w fun e w' => e = .returned (.tuple #[.int .i64 (Wire.takeI l at').1, .int .i64 (Wire.takeI l at').2.1, .int .i64 (Wire.takeI l at').2.2]) ∧ Below w.heap.size w w' := by
  have hu := Wire.takeU_lt l at'
  obtain ⟨u, nx, er, ht⟩ : ∃ u nx er, Wire.takeU l at' = (u, nx, er) := ⟨_, _, _, rfl⟩
  have hti : Wire.takeI l at' = if er = 0 then (Wire.zag u, nx, 0) else (0, 0, er) := by unfold Wire.takeI; rw [ht]
  rw [ht] at hu
  have hu' : u < 18446744073709551616 := hu
  have HT := Lib.hid ht
  have HI := Lib.hid hti
  clear ht hti hu
  go_enter Try.func47, Try.ntmps47
  go_wp2_with fail
  refine (refTakeUintB_any l at' _ hs h1 h2).mono ?_
  rw [HT.out]
  rintro e w1 ⟨rfl, hb⟩
  by_cases he : er = 0
  · have hbe : (er != 0) = false := by rw [he]; rfl
    have HE := Lib.hid he
    clear he
    by_cases hodd : u % 2 = 1
    · have hb1 : ((u : Int) % 2 == 0) = false := by rw [beq_eq_false_iff_ne]; omega
      have hz : Wire.zag u = -((u / 2 : Nat) : Int) - 1 := by unfold Wire.zag; rw [if_pos hodd]
      have HZ := Lib.hid hz
      clear hz hodd
      go_wp2_with fail
      go_ret3
      exact ⟨by rw [HI.out, if_pos HE.out, HZ.out]; exact ret3_fst (by show _ = -((u / 2 : Nat) : Int) - 1; omega), hb⟩
    · have hb1 : ((u : Int) % 2 == 0) = true := by rw [beq_iff_eq]; omega
      have hz : Wire.zag u = ((u / 2 : Nat) : Int) := by unfold Wire.zag; rw [if_neg hodd]
      have HZ := Lib.hid hz
      clear hz hodd
      go_wp2_with fail
      go_ret3
      exact ⟨by rw [HI.out, if_pos HE.out, HZ.out]; exact ret3_fst (by show _ = ((u / 2 : Nat) : Int); omega), hb⟩
  · have hbe : (er != 0) = true := by rw [bne_iff_ne]; exact he
    have HE := Lib.hid he
    clear he
    go_wp2_with fail
    go_ret3
    exact ⟨by rw [HI.out, if_neg HE.out]; rfl, hb⟩
theorem takeCount_any (l : List UInt8) (at' most : Int) (w : World) (hs : l.length ≤ 140737488351232) (h1 : -9223372036854775808 ≤ at') (h2 : at' ≤ 9223372036854775807) (h3 : -9223372036854775808 ≤ most) (h4 : most ≤ 9223372036854775807) :
    Calls Try.prog 34 #[.string (bs l), .int .i64 at', .int .i64 most] w fun e w' => e = .returned (.tuple #[.int .i64 ((Wire.takeC l at' most).1 : Nat), .int .i64 (Wire.takeC l at' most).2.1, .int .i64 (Wire.takeC l at' most).2.2]) ∧ Below w.heap.size w w' := by
  have hu := Wire.takeU_lt l at'
  obtain ⟨u, nx, er, ht⟩ : ∃ u nx er, Wire.takeU l at' = (u, nx, er) := ⟨_, _, _, rfl⟩
  have htc := Wire.takeC_eq l at' most ht
  have hnx : er = 0 → 0 ≤ nx ∧ nx ≤ l.length := fun h => by
    have := Wire.takeU_exact (l := l) (at' := at') (by rw [ht]; exact h)
    rw [ht] at this
    have h5 := this.2.1
    have h6 := this.2.2.1
    simp only at h5 h6
    omega
  rw [ht] at hu
  have hu' : u < 18446744073709551616 := hu
  have HT := Lib.hid ht
  have HI := Lib.hid htc
  clear ht htc hu
  go_enter Try.func34, Try.ntmps34
  go_wp2_with fail
  refine (takeUint_any l at' _ hs h1 h2).mono ?_
  rw [HT.out]
  rintro e w1 ⟨rfl, hb⟩
  by_cases he : er = 0
  · have hbe : (er != 0) = false := by rw [he]; rfl
    obtain ⟨hn1, hn2⟩ := hnx he
    obtain ⟨f, rfl⟩ := Int.eq_ofNat_of_zero_le hn1
    have hc1 : ¬ (er ≠ 0) := fun h => h he
    have HE := Lib.hid hc1
    clear he hnx hc1
    by_cases hm : most < 0
    · have hc2 : most < 0 ∨ most < (u : Int) := Or.inl hm
      have H2 := Lib.hid hc2
      clear hc2
      go_wp2_with fail
      go_ret3
      exact ⟨by rw [HI.out, if_neg HE.out, if_pos H2.out]; rfl, hb⟩
    · by_cases hmu : most < (u : Int)
      · have hc2 : most < 0 ∨ most < (u : Int) := Or.inr hmu
        have H2 := Lib.hid hc2
        clear hc2
        go_wp2_with fail
        go_ret3
        exact ⟨by rw [HI.out, if_neg HE.out, if_pos H2.out]; rfl, hb⟩
      · have hc2 : ¬ (most < 0 ∨ most < (u : Int)) := by omega
        have H2 := Lib.hid hc2
        clear hc2
        by_cases hlu : (l.length : Int) - (f : Int) < (u : Int)
        · have H3 := Lib.hid hlu
          go_wp2_with fail
          go_ret3
          exact ⟨by rw [HI.out, if_neg HE.out, if_neg H2.out, if_pos H3.out]; rfl, hb⟩
        · have H3 := Lib.hid hlu
          go_wp2_with fail
          go_ret3
          exact ⟨by rw [HI.out, if_neg HE.out, if_neg H2.out, if_neg (by have := H3.out; omega)]; rfl, hb⟩
  · have hbe : (er != 0) = true := by rw [bne_iff_ne]; exact he
    have hc1 : er ≠ 0 := he
    have HE := Lib.hid hc1
    clear he hnx hc1
    go_wp2_with fail
    go_ret3
    exact ⟨by rw [HI.out, if_pos HE.out]; rfl, hb⟩
theorem refTakeCount_any (l : List UInt8) (at' most : Int) (w : World) (hs : l.length ≤ 140737488351232) (h1 : -9223372036854775808 ≤ at') (h2 : at' ≤ 9223372036854775807) (h3 : -9223372036854775808 ≤ most) (h4 : most ≤ 9223372036854775807) :
    Calls Try.prog 35 #[.string (bs l), .int .i64 at', .int .i64 most] w fun e w' => e = .returned (.tuple #[.int .i64 ((Wire.takeC l at' most).1 : Nat), .int .i64 (Wire.takeC l at' most).2.1, .int .i64 (Wire.takeC l at' most).2.2]) ∧ Below w.heap.size w w' := by
  have hu := Wire.takeU_lt l at'
  obtain ⟨u, nx, er, ht⟩ : ∃ u nx er, Wire.takeU l at' = (u, nx, er) := ⟨_, _, _, rfl⟩
  have htc := Wire.takeC_eq l at' most ht
  have hnx : er = 0 → 0 ≤ nx ∧ nx ≤ l.length := fun h => by
    have := Wire.takeU_exact (l := l) (at' := at') (by rw [ht]; exact h)
    rw [ht] at this
    have h5 := this.2.1
    have h6 := this.2.2.1
    simp only at h5 h6
    omega
  rw [ht] at hu
  have hu' : u < 18446744073709551616 := hu
  have HT := Lib.hid ht
  have HI := Lib.hid htc
  clear ht htc hu
  go_enter Try.func35, Try.ntmps35
  go_wp2_with fail
  refine (refTakeUintB_any l at' _ hs h1 h2).mono ?_
  rw [HT.out]
  rintro e w1 ⟨rfl, hb⟩
  by_cases he : er = 0
  · have hbe : (er != 0) = false := by rw [he]; rfl
    obtain ⟨hn1, hn2⟩ := hnx he
    obtain ⟨f, rfl⟩ := Int.eq_ofNat_of_zero_le hn1
    have hc1 : ¬ (er ≠ 0) := fun h => h he
    have HE := Lib.hid hc1
    clear he hnx hc1
    by_cases hm : most < 0
    · have hc2 : most < 0 ∨ most < (u : Int) := Or.inl hm
      have H2 := Lib.hid hc2
      clear hc2
      go_wp2_with fail
      go_ret3
      exact ⟨by rw [HI.out, if_neg HE.out, if_pos H2.out]; rfl, hb⟩
    · by_cases hmu : most < (u : Int)
      · have hc2 : most < 0 ∨ most < (u : Int) := Or.inr hmu
        have H2 := Lib.hid hc2
        clear hc2
        go_wp2_with fail
        go_ret3
        exact ⟨by rw [HI.out, if_neg HE.out, if_pos H2.out]; rfl, hb⟩
      · have hc2 : ¬ (most < 0 ∨ most < (u : Int)) := by omega
        have H2 := Lib.hid hc2
        clear hc2
        by_cases hlu : (l.length : Int) - (f : Int) < (u : Int)
        · have H3 := Lib.hid hlu
          go_wp2_with fail
          go_ret3
          exact ⟨by rw [HI.out, if_neg HE.out, if_neg H2.out, if_pos H3.out]; rfl, hb⟩
        · have H3 := Lib.hid hlu
          go_wp2_with fail
          go_ret3
          exact ⟨by rw [HI.out, if_neg HE.out, if_neg H2.out, if_neg (by have := H3.out; omega)]; rfl, hb⟩
  · have hbe : (er != 0) = true := by rw [bne_iff_ne]; exact he
    have hc1 : er ≠ 0 := he
    have HE := Lib.hid hc1
    clear he hnx hc1
    go_wp2_with fail
    go_ret3
    exact ⟨by rw [HI.out, if_pos HE.out]; rfl, hb⟩
theorem takeText_any (l : List UInt8) (at' most : Int) (w : World) (hs : l.length ≤ 140737488351232) (h1 : -9223372036854775808 ≤ at') (h2 : at' ≤ 9223372036854775807) (h3 : -9223372036854775808 ≤ most) (h4 : most ≤ 9223372036854775807) :
    Calls Try.prog 32 #[.string (bs l), .int .i64 at', .int .i64 most] w fun e w' => e = .returned (.tuple #[.string (bs (Wire.takeT l at' most).1), .int .i64 (Wire.takeT l at' most).2.1, .int .i64 (Wire.takeT l at' most).2.2]) ∧ Below w.heap.size w w' := by
  obtain ⟨n, nx, er, ht⟩ : ∃ n nx er, Wire.takeC l at' most = (n, nx, er) := ⟨_, _, _, rfl⟩
  have htt : Wire.takeT l at' most = if er = 0 then ((l.drop nx.toNat).take n, nx + n, 0) else ([], 0, er) := by unfold Wire.takeT; rw [ht]
  have hnx : er = 0 → 0 ≤ nx ∧ nx + n ≤ l.length := fun h => by
    have := Wire.takeC_bd (l := l) (at' := at') (most := most) (by rw [ht]; exact h)
    rw [ht] at this
    have h5 := this.2.1
    have h6 := this.2.2.1
    simp only at h5 h6
    omega
  have HT := Lib.hid ht
  have HI := Lib.hid htt
  clear ht htt
  go_enter Try.func32, Try.ntmps32
  go_wp2_with fail
  refine (takeCount_any l at' most _ hs h1 h2 h3 h4).mono ?_
  rw [HT.out]
  rintro e w1 ⟨rfl, hb⟩
  by_cases he : er = 0
  · have hbe : (er != 0) = false := by rw [he]; rfl
    obtain ⟨hn1, hn2⟩ := hnx he
    obtain ⟨f, rfl⟩ := Int.eq_ofNat_of_zero_le hn1
    have hdt : (l.take (f + n)).drop f = (l.drop f).take n := by rw [List.drop_take]; congr 1; omega
    have HE := Lib.hid he
    have HD := Lib.hid hdt
    clear he hnx hdt
    go_wp2_with fail
    go_ret3
    exact ⟨by rw [HI.out, if_pos HE.out, Int.toNat_natCast, ← HD.out]; rfl, hb⟩
  · have hbe : (er != 0) = true := by rw [bne_iff_ne]; exact he
    have HE := Lib.hid he
    clear he hnx
    go_wp2_with fail
    go_ret3
    exact ⟨by rw [HI.out, if_neg HE.out]; rfl, hb⟩
theorem refTakeText_any (l : List UInt8) (at' most : Int) (w : World) (hs : l.length ≤ 140737488351232) (h1 : -9223372036854775808 ≤ at') (h2 : at' ≤ 9223372036854775807) (h3 : -9223372036854775808 ≤ most) (h4 : most ≤ 9223372036854775807) :
    Calls Try.prog 33 #[.string (bs l), .int .i64 at', .int .i64 most] w fun e w' => e = .returned (.tuple #[.string (bs (Wire.takeT l at' most).1), .int .i64 (Wire.takeT l at' most).2.1, .int .i64 (Wire.takeT l at' most).2.2]) ∧ Below w.heap.size w w' := by
  obtain ⟨n, nx, er, ht⟩ : ∃ n nx er, Wire.takeC l at' most = (n, nx, er) := ⟨_, _, _, rfl⟩
  have htt : Wire.takeT l at' most = if er = 0 then ((l.drop nx.toNat).take n, nx + n, 0) else ([], 0, er) := by unfold Wire.takeT; rw [ht]
  have hnx : er = 0 → 0 ≤ nx ∧ nx + n ≤ l.length := fun h => by
    have := Wire.takeC_bd (l := l) (at' := at') (most := most) (by rw [ht]; exact h)
    rw [ht] at this
    have h5 := this.2.1
    have h6 := this.2.2.1
    simp only at h5 h6
    omega
  have HT := Lib.hid ht
  have HI := Lib.hid htt
  clear ht htt
  go_enter Try.func33, Try.ntmps33
  go_wp2_with fail
  refine (refTakeCount_any l at' most _ hs h1 h2 h3 h4).mono ?_
  rw [HT.out]
  rintro e w1 ⟨rfl, hb⟩
  by_cases he : er = 0
  · have hbe : (er != 0) = false := by rw [he]; rfl
    obtain ⟨hn1, hn2⟩ := hnx he
    obtain ⟨f, rfl⟩ := Int.eq_ofNat_of_zero_le hn1
    have hdt : (l.take (f + n)).drop f = (l.drop f).take n := by rw [List.drop_take]; congr 1; omega
    have HE := Lib.hid he
    have HD := Lib.hid hdt
    clear he hnx hdt
    go_wp2_with fail
    go_ret3
    exact ⟨by rw [HI.out, if_pos HE.out, Int.toNat_natCast, ← HD.out]; rfl, hb⟩
  · have hbe : (er != 0) = true := by rw [bne_iff_ne]; exact he
    have HE := Lib.hid he
    clear he hnx
    go_wp2_with fail
    go_ret3
    exact ⟨by rw [HI.out, if_neg HE.out]; rfl, hb⟩
end Go.Proofs.Ytlpkkcodmoklaaa
