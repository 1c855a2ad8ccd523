/- The walk of the law CrcAdds. -/
import Derived.Test.YtlpkkcodmoklaaaCrcAlive
import Derived.Test.YtlpkkcodmoklaaaOwnStep
import Derived.Deep.RegionLaw
import Derived.Deep.RegionWith
namespace Go.Proofs.Ytlpkkcodmoklaaa
open Go.RowKit
attribute [local go_sem] bs_size bs_get bs_append bs_extract bs_toList bs_nil
theorem xor3_take (a b c : List UInt8) (k : Nat) (ha : k < a.length) (hb : k < b.length) (hc : k < c.length) :
    Crc.xor3 (a.take (k + 1)) (b.take (k + 1)) (c.take (k + 1)) = Crc.xor3 (a.take k) (b.take k) (c.take k) ++ [a[k] ^^^ b[k] ^^^ c[k]] := by
  induction k generalizing a b c with
  | zero =>
    match a, b, c, ha, hb, hc with
    | x :: a, y :: b, z :: c, _, _, _ => simp [Crc.xor3]
  | succ k ih =>
    match a, b, c, ha, hb, hc with
    | x :: a, y :: b, z :: c, ha, hb, hc =>
      have := ih a b c (by simpa using ha) (by simpa using hb) (by simpa using hc)
      simp only [List.take_succ_cons, Crc.xor3, List.getElem_cons_succ, List.cons_append] at this ⊢
      rw [this]
theorem xor3_length : ∀ (a b c : List UInt8), (Crc.xor3 a b c).length ≤ a.length
  | [], b, c => by simp [Crc.xor3]
  | x :: a, [], c => by simp [Crc.xor3]
  | x :: a, y :: b, [] => by simp [Crc.xor3]
  | x :: a, y :: b, z :: c => by simp [Crc.xor3]; exact xor3_length a b c
theorem u8_xor_eq (x y : UInt8) : bits .xor .u8 (x.toNat : Int) (y.toNat : Int) = ((x ^^^ y).toNat : Int) := by
  rw [UInt8.toNat_xor]
  exact u8_xor_nat _ _ x.toNat_lt y.toNat_lt
theorem run_min4 {P : Program} (w : World) (ts : Array TypeId) (t : TypeId) (a b c d n : Nat) (h : n = min (min (min a b) c) d) :
    (Builtin.min_ ts t #[.int .i64 (a : Int), .int .i64 (b : Int), .int .i64 (c : Int), .int .i64 (d : Int)]).run P w = .ok (.int .i64 (n : Int)) w := by
  subst h
  have e : ∀ x y : Nat, ∀ W, (Builtin.min2 (.int .i64 (x : Int)) (.int .i64 (y : Int))).run P W = .ok (.int .i64 ((min x y : Nat) : Int)) W := fun x y W => by
    simp only [Builtin.min2]
    split <;> simp <;> omega
  simp only [Builtin.min_]
  simp [e]
set_option maxRecDepth 100000 in
set_option maxHeartbeats 2000000 in
theorem crcAdds_any (a b c : List UInt8) (w : World) (ha : a.length ≤ maxLen) (hb : b.length ≤ maxLen) (hc : c.length ≤ maxLen) :
    Calls Try.prog 6 #[.string (bs a), .string (bs b), .string (bs c)] w fun e w' => e = .returned (.bool true) ∧ Below w.heap.size w w' := by
  unfold maxLen at ha hb hc
  obtain ⟨i0, hi, hz0, hz1, hz2⟩ := info_parts info5b
  obtain ⟨n, hn⟩ : ∃ n, n = min (min (min a.length b.length) c.length) 3000 := ⟨_, rfl⟩
  have hmin : ∀ W, (Builtin.min_ #[3, 3, 3, 3] 3 #[.int .i64 (a.length : Int), .int .i64 (b.length : Int), .int .i64 (c.length : Int), .int .i64 3000]).run Try.prog W = .ok (.int .i64 (n : Int)) W := fun W => run_min4 (P := Try.prog) W #[3, 3, 3, 3] 3 a.length b.length c.length 3000 n hn
  have hn1 : n ≤ a.length := by omega
  have hn2 : n ≤ b.length := by omega
  have hn3 : n ≤ c.length := by omega
  have hn4 : n ≤ 3000 := by omega
  clear hn
  go_enter Try.func6, Try.ntmps6
  go_wp2_with fail
  clear hmin
  go_loopw [8, 9] (fun v i wr => ∃ k : Nat, k ≤ n ∧ i = .int .i64 k ∧ OwnB wr w.heap.size 5 v (Crc.xor3 (a.take k) (b.take k) (c.take k)) ∧ Below w.heap.size w wr) (fun _ i _ => (n - intOf i).toNat)
  case atStart => exact ⟨0, by omega, rfl, OwnB.nil _ _ _, Below.refl _ _⟩
  case round =>
    obtain ⟨k, hk, rfl, hown, hbr⟩ := hrel
    by_cases hlt : k < n
    · have hts := xor3_take a b c k (by omega) (by omega) (by omega)
      have hxl : (Crc.xor3 (a.take k) (b.take k) (c.take k)).length ≤ 3000 := Nat.le_trans (xor3_length _ _ _) (by rw [List.length_take]; omega)
      have HT := Lib.hid hts
      clear hts
      generalize Crc.xor3 (a.take k) (b.take k) (c.take k) = X at hown HT hxl
      generalize hx : a[k] = x at HT
      generalize hy : b[k] = y at HT
      generalize hz : c[k] = z at HT
      have e1 := u8_xor_eq x y
      generalize x ^^^ y = p at e1 HT
      have e2 := u8_xor_eq p z
      generalize p ^^^ z = q at e2 HT
      have hka : k < a.length := by omega
      have hkb : k < b.length := by omega
      have hkc : k < c.length := by omega
      have hwsz := hbr.size
      go_wp2_with fail
      go_region_law (refine step_append_u8 rfl (.tmp 22) (.tmp 34) 30 rfl w.heap.size 5 i0 Try.underlying30 hi hz0 hz1 hz2 _ X rfl (hown.alloc _) q wr.heap.size rfl (by go_simp) (by omega) (by simp; omega) ?_; intro v' w' hown' hkeep)
      all_goals
        have hbel : Below w.heap.size w w' := hkeep _ _ (Nat.le_refl _) ((hbr.alloc hwsz _).drew)
        clear hkeep hown hx hy hz e1 e2
        go_wp2_with fail
        go_roundw
        case rel => exact ⟨k + 1, by omega, by go_num, by rw [HT.out]; exact hown', hbel⟩
        case measure => simp [intOf] <;> omega
    · obtain rfl : k = n := by omega
      have hxs := Crc.sum_xor3 (a.take k) (b.take k) (c.take k) (by rw [List.length_take, List.length_take]; omega) (by rw [List.length_take, List.length_take]; omega)
      have hxl : (Crc.xor3 (a.take k) (b.take k) (c.take k)).length ≤ 3000 := Nat.le_trans (xor3_length _ _ _) (by rw [List.length_take]; omega)
      have h1 := Crc.sum_lt (a.take k)
      have h2 := Crc.sum_lt (b.take k)
      have h3 := Crc.sum_lt (c.take k)
      have e1 := u32_xor_nat _ _ h1 h2
      have e2 := u32_xor_nat _ _ (Crc.xor_lt32 h1 h2) h3
      have hE : (((Crc.sum (Crc.xor3 (a.take k) (b.take k) (c.take k)) : Nat) : Int) == bits .xor .u32 (bits .xor .u32 (Crc.sum (a.take k) : Nat) (Crc.sum (b.take k) : Nat)) (Crc.sum (c.take k) : Nat)) = true := by
        rw [e1, e2, hxs]; simp
      clear e1 e2 hxs h1 h2 h3
      generalize Crc.xor3 (a.take k) (b.take k) (c.take k) = X at hown hxl hE
      have hcv := conv_own (P := Try.prog) wr.drew Try.underlying30 Try.underlying5 Try.underlying9 hown.drew
      go_wp2_with fail
      go_region_with (first
        | (go_at_call 20; refine (sum_any _ _ (by unfold maxLen; first | omega | (rw [List.length_take]; omega))).mono ?_; rintro e w1 ⟨rfl, rfl⟩)
        | (go_at_call 24; refine (alive04 _).mono ?_; rintro e w1 ⟨rfl, hb1⟩))
      all_goals
        go_wp2_with fail
        go_ret
        exact ⟨rfl, hbr.drew.trans (hb1.mono hbr.size)⟩
end Go.Proofs.Ytlpkkcodmoklaaa
