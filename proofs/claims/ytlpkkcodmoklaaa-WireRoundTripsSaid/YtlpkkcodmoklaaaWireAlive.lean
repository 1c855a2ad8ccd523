/- The walks of the examples of chapter 3, and of the law's comparison of a part. -/
import Derived.Test.YtlpkkcodmoklaaaWireWalksK
namespace Go.Proofs.Ytlpkkcodmoklaaa
open Go.RowKit
attribute [local go_sem] bs_size bs_get bs_append bs_extract bs_toList
theorem wx1 : Wire.takeI [128, 1] 0 = (64, 2, 0) := by decide +kernel
theorem wx2 : Wire.takeL [2, 2, 3, 33] 0 2 = ([1, -2], 3, 0) := by decide +kernel
theorem wx3 : Wire.takeT [3, 97, 98] 0 9 = ([], 0, 5) := by decide +kernel
theorem wx4 : Wire.takeT [3, 97, 98] 0 2 = ([], 0, 2) := by decide +kernel
theorem wx5 : Wire.enc 300 = [172, 2] := by decide +kernel
theorem wx6 : Wire.encI (-1) = [1] := by decide +kernel
theorem wx7 : Wire.encT [97, 98] = [2, 97, 98] := by decide +kernel
theorem Rd.at_now {w w' : World} {B size n : Nat} {v : Value} {xs : List Value} (h : Rd w B size v n xs) (hb : Below B w w') (hB : B ≤ w.heap.size) : Rd w' w'.heap.size size v n xs := (h.below hb).more (Nat.le_trans hB hb.size)
theorem rd_lit (w : World) (t : TypeId) (L : List Int) (c n : Nat) (hn : n = L.length) : Rd (w.alloc (.cells (cellsI L).toArray t)) (w.alloc (.cells (cellsI L).toArray t)).heap.size 1 (.slice (some ⟨w.heap.size, 0, none⟩) n c) L.length (cellsI L) := by
  subst hn
  refine ⟨by rw [cellsI_length]; omega, _, _, rfl, fun _ => ⟨w.heap.size, 0, rfl, by simp, fun j u hu => ?_⟩⟩
  rw [Nat.zero_add, World.cell?_alloc_at _ _ _ _ rfl]
  simpa using hu
theorem alive03 (w : World) : Calls Try.prog 31 #[] w fun e w' => e = .returned (.bool true) ∧ Below w.heap.size w w' := by
  go_enter Try.func31, Try.ntmps31
  go_wp2_with fail
  refine (takeInt_any [128, 1] 0 _ (by simp) (by omega) (by omega)).mono ?_
  rw [wx1]
  rintro e w1 ⟨rfl, hb1⟩
  go_wp2_with fail
  refine (takeInts_any [2, 2, 3, 33] 0 2 _ (by simp) (by omega) (by omega) (by omega) (by omega)).mono ?_
  rw [wx2]
  rintro e w2 ⟨v, rfl, hrd, hb2⟩
  go_wp2_with fail
  refine (takeText_any [3, 97, 98] 0 9 _ (by simp) (by omega) (by omega) (by omega) (by omega)).mono ?_
  rw [wx3]
  rintro e w3 ⟨rfl, hb3⟩
  go_wp2_with fail
  refine (takeText_any [3, 97, 98] 0 2 _ (by simp) (by omega) (by omega) (by omega) (by omega)).mono ?_
  rw [wx4]
  rintro e w4 ⟨rfl, hb4⟩
  go_wp2_with fail
  refine (uint_any 300 _ (by omega)).mono ?_
  rw [wx5]
  rintro e w5 ⟨rfl, hb5⟩
  go_wp2_with fail
  refine (int_any (-1) _ (by omega) (by omega)).mono ?_
  rw [wx6]
  rintro e w6 ⟨rfl, hb6⟩
  go_wp2_with fail
  refine (text_any [97, 98] _ (by simp)).mono ?_
  rw [wx7]
  rintro e w7 ⟨rfl, hb7⟩
  have hr7 : Rd w7 w7.heap.size 1 v 2 (cellsI [1, -2]) := ((((hrd.at_now hb3 (Nat.le_refl _)).at_now hb4 (Nat.le_refl _)).at_now hb5 (Nat.le_refl _)).at_now hb6 (Nat.le_refl _)).at_now hb7 (Nat.le_refl _)
  have hball : Below w.heap.size w w7 := bthen (bthen (bthen (bthen (bthen (bthen hb1 hb2) hb3) hb4) hb5) hb6) hb7
  clear hrd hb1 hb2 hb3 hb4 hb5 hb6 hb7
  go_wp2_with fail
  have hr8 : Rd (w7.alloc (.cells #[.int .i64 1, .int .i64 (-2)] 3)) (w7.alloc (.cells #[.int .i64 1, .int .i64 (-2)] 3)).heap.size 1 v 2 (cellsI [1, -2]) := (hr7.keep fun p hp => World.cell?_alloc_lt w7 _ p (by omega)).more (by simp)
  refine (same_any [1, -2] [1, -2] v _ _ (by simp) (by simp) hr8 (rd_lit w7 3 [1, -2] 2 2 rfl)).mono ?_
  rw [sameB_self]
  rintro e w9 ⟨rfl, hb9⟩
  go_wp2_with fail
  go_ret
  exact ⟨rfl, (hball.alloc hball.size _).trans (hb9.mono (by simp; have := hball.size; omega))⟩
theorem is_any (l c : List UInt8) (at' to : Int) (w : World) (_hs : l.length ≤ 140737488351232) (h : 0 ≤ at' ∧ at' ≤ to ∧ to ≤ l.length ∧ (l.take to.toNat).drop at'.toNat = c) :
    Calls Try.prog 56 #[.string (bs l), .int .i64 at', .int .i64 to, .string (bs c)] w fun e w' => e = .returned (.bool true) ∧ w = w' := by
  obtain ⟨h1, h2, h3, h4⟩ := h
  obtain ⟨a, rfl⟩ := Int.eq_ofNat_of_zero_le h1
  obtain ⟨b, rfl⟩ := Int.eq_ofNat_of_zero_le (show 0 ≤ to by omega)
  rw [Int.toNat_natCast, Int.toNat_natCast] at h4
  have hq : ((l.take b).drop a == c) = true := by rw [h4]; simp
  clear h4
  go_enter Try.func56, Try.ntmps56
  go_wp2_with fail
  go_ret
  exact ⟨rfl, rfl⟩
end Go.Proofs.Ytlpkkcodmoklaaa
