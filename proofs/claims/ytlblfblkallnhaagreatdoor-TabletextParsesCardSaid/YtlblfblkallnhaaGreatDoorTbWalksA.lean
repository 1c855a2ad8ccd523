/- The words of lists: steps, settings, ends, numbers of the program. -/
import Derived.Test.YtlblfblkallnhaaGreatDoorTbCod
import Derived.Test.YtlblfblkallnhaaGreatDoorTbBase
namespace Go.Proofs.YtlblfblkallnhaaGreatDoor
set_option linter.unusedVariables false
set_option linter.unusedSimpArgs false
open Go.RowKit
attribute [local go_sem] bs_size bs_get bs_append bs_extract bs_toList
attribute [-go_sem] run_equalIn_agg
theorem join_le : ∀ (l : List (List UInt8)) (b : Nat), (∀ x ∈ l, x.length ≤ b) → (Lib.join l [44]).length ≤ l.length * (b + 1)
  | [], _, _ => by simp [Lib.join]
  | [x], b, h => by have := h x (by simp); simp [Lib.join]; omega
  | x :: y :: r, b, h => by
    have ih := join_le (y :: r) b fun z hz => h z (by simp [hz])
    have hx := h x (by simp)
    have e : (x :: y :: r).length * (b + 1) = (b + 1) + (y :: r).length * (b + 1) := by
      rw [List.length_cons, Nat.add_mul]
      omega
    have e2 : (Lib.join (x :: y :: r) [44]).length = x.length + (1 + (Lib.join (y :: r) [44]).length) := by
      simp [Lib.join]
      try omega
    rw [e, e2]
    omega
theorem fmt_len {l : List Int} (h : ∀ n ∈ l, I64n n) (hl : l.length ≤ 3) : (fmtF l).length ≤ 66 := by
  unfold fmtF
  split
  · simp
  · have := join_le (l.map Lib.itoa) 21 fun x hx => by
      obtain ⟨n, hn, rfl⟩ := List.mem_map.1 hx
      exact itoaP_len n (h n hn)
    rw [List.length_map] at this
    omega
theorem fmtC (ns : List Int) (g : Nat) (T : TypeId) (n : Nat) (hn : n = ns.length) (w : World) (E : Env w) (h : Blk w g T (ns.map (Value.int .i64)).toArray) (hi : ∀ n ∈ ns, I64n n) (hl : ns.length ≤ 1000) :
    Calls Tryz.prog 81 #[.slice (some ⟨g, 0, none⟩) n n] w fun e w' => e = .returned (.string (bs (fmtF ns))) ∧ Below w.heap.size w w' := by
  subst hn
  exact fmtList_any ns (some ⟨g, 0, none⟩) ns.length w E (rds_ints h hi) (by omega)
set_option maxRecDepth 100000 in
set_option maxHeartbeats 4000000 in
theorem steps_any (l : List Stp) (A : Option Addr) (cap : Nat) (w : World) (E : Env w) (hr : RdS cStp w (Lt w) A l) (hl : l.length ≤ 40000) :
    Calls Tryz.prog 48 #[.slice A l.length cap] w (RowP w (stpsW l)) := by
  obtain ⟨i0, hi0, hz0, hz1, hz2⟩ := info_parts infoStrT
  go_enter Tryz.func48, Tryz.ntmps48
  go_wp2_with fail
  go_loopw [3, 8] (fun s n wr => ∃ k : Nat, k ≤ l.length ∧ n = .int .i64 k ∧ OwnR cS wr w.heap.size 9 s (stpsW (l.take k)) 0 ∧ Below w.heap.size w wr) (fun _ n _ => l.length - (intOf n).toNat)
  case atStart => exact ⟨0, Nat.zero_le _, rfl, OwnR.nil _ _ _ _ (Nat.zero_le _), Below.refl _ _⟩
  case round =>
    obtain ⟨k, hk, rfl, hown, hb⟩ := hrel
    have hsz := hb.size
    by_cases hlt : k < l.length
    · have hki : (k : Int) < (l.length : Int) := by omega
      obtain ⟨b, off, hA, lb, ⟨o0, o1, o2⟩, y0, y1, y2⟩ := (hr.now hb).elT hlt
      have HT : Hid (stpsW (l.take (k + 1)) = stpsW (l.take k) ++ [fmtF (stpN l[k])]) := Lib.hid (map_take _ hlt)
      have hkl : (stpsW (l.take k)).length ≤ 50000 := by simp [stpsW]; omega
      have hba := hb.alloc hsz (.cells #[.int .i64 l[k].el, .int .i64 l[k].inn, .int .i64 l[k].out] 50)
      have hb2 := hba.alloc hba.size (.cells #[.int .i64 l[k].el, .int .i64 l[k].inn, .int .i64 l[k].out] 3)
      have hown2 := (hown.alloc (.cells #[.int .i64 l[k].el, .int .i64 l[k].inn, .int .i64 l[k].out] 50)).alloc (.cells #[.int .i64 l[k].el, .int .i64 l[k].inn, .int .i64 l[k].out] 3)
      have hi3 : ∀ n ∈ stpN l[k], I64n n := by intro n hn; simp only [stpN, List.mem_cons, List.not_mem_nil, or_false] at hn; rcases hn with rfl | rfl | rfl <;> assumption
      have hfl := fmt_len hi3 (by simp [stpN])
      have HC := Lib.hid (fmtC (stpN l[k]) (wr.heap.size + 1) 3 3 rfl ((wr.alloc (.cells #[.int .i64 l[k].el, .int .i64 l[k].inn, .int .i64 l[k].out] 50)).alloc (.cells #[.int .i64 l[k].el, .int .i64 l[k].inn, .int .i64 l[k].out] 3)) (E.now hb2) (Blk.new _ _ _ _ (by simp)) hi3 (by simp [stpN]))
      rw [hA]
      clear hA hi3 o0 o1 o2
      generalize fmtF (stpN l[k]) = fx at *
      generalize l[k] = q at *
      generalize stpsW (l.take k) = ws at *
      clear hba hown
      go_wp2_with fail
      refine HC.out.mono ?_
      rintro e w4 ⟨rfl, hq4⟩
      have hb4 := bel_then hb2 hb2.size hq4
      have hown4 := hown2.now hq4
      have hs4 := hb4.size
      clear hown2 hb2 hq4
      go_wp2_with (at_builtin; go_loud (refine wpList_append_r (c := cS) _ rfl _ _ 46 rfl w.heap.size 9 i0 _ 16 Tryz.underlying46 hi0 hz0 hz1 hz2 rfl (by decide) _ ws 0 rfl hown4 [_] fx ⟨rfl, by unfold maxLen; omega⟩ (fun u hu => by (simp at hu; subst hu; rfl)) _ rfl (by omega) (by omega) (by omega) ?_); intro v' w5 hown5 hf5 hs5)
      go_roundw
      case rel => exact ⟨k + 1, by omega, by go_num, by rw [HT.out]; exact hown5, hf5.keeps (Nat.le_refl _) hs4 hb4⟩
      case measure => simp [intOf]; omega
    · have HE : Hid (stpsW (l.take k) = stpsW l) := Lib.hid (by rw [List.take_of_length_le (by omega)])
      rw [HE.out] at hown
      obtain ⟨A', c', rfl⟩ := hown.form
      have HO := Lib.hid hown
      clear hown HE
      go_wp2_with fail
      go_ret
      exact ⟨A', c', rfl, HO.out, hb⟩
set_option maxRecDepth 100000 in
set_option maxHeartbeats 4000000 in
theorem settings_any (l : List Stg) (A : Option Addr) (cap : Nat) (w : World) (E : Env w) (hr : RdS cStg w (Lt w) A l) (hl : l.length ≤ 40000) :
    Calls Tryz.prog 49 #[.slice A l.length cap] w (RowP w (stgsW l)) := by
  obtain ⟨i0, hi0, hz0, hz1, hz2⟩ := info_parts infoStrT
  go_enter Tryz.func49, Tryz.ntmps49
  go_wp2_with fail
  go_loopw [3, 8] (fun s n wr => ∃ k : Nat, k ≤ l.length ∧ n = .int .i64 k ∧ OwnR cS wr w.heap.size 9 s (stgsW (l.take k)) 0 ∧ Below w.heap.size w wr) (fun _ n _ => l.length - (intOf n).toNat)
  case atStart => exact ⟨0, Nat.zero_le _, rfl, OwnR.nil _ _ _ _ (Nat.zero_le _), Below.refl _ _⟩
  case round =>
    obtain ⟨k, hk, rfl, hown, hb⟩ := hrel
    have hsz := hb.size
    by_cases hlt : k < l.length
    · have hki : (k : Int) < (l.length : Int) := by omega
      obtain ⟨b, off, hA, lb, ⟨o0, o1⟩, y0, y1⟩ := (hr.now hb).elG hlt
      have HT : Hid (stgsW (l.take (k + 1)) = stgsW (l.take k) ++ [fmtF (stgN l[k])]) := Lib.hid (map_take _ hlt)
      have hkl : (stgsW (l.take k)).length ≤ 50000 := by simp [stgsW]; omega
      have hba := hb.alloc hsz (.cells #[.int .i64 l[k].el, .int .i64 l[k].pos] 99)
      have hb2 := hba.alloc hba.size (.cells #[.int .i64 l[k].el, .int .i64 l[k].pos] 3)
      have hown2 := (hown.alloc (.cells #[.int .i64 l[k].el, .int .i64 l[k].pos] 99)).alloc (.cells #[.int .i64 l[k].el, .int .i64 l[k].pos] 3)
      have hi3 : ∀ n ∈ stgN l[k], I64n n := by intro n hn; simp only [stgN, List.mem_cons, List.not_mem_nil, or_false] at hn; rcases hn with rfl | rfl <;> assumption
      have hfl := fmt_len hi3 (by simp [stgN])
      have HC := Lib.hid (fmtC (stgN l[k]) (wr.heap.size + 1) 3 2 rfl ((wr.alloc (.cells #[.int .i64 l[k].el, .int .i64 l[k].pos] 99)).alloc (.cells #[.int .i64 l[k].el, .int .i64 l[k].pos] 3)) (E.now hb2) (Blk.new _ _ _ _ (by simp)) hi3 (by simp [stgN]))
      rw [hA]
      clear hA hi3 o0 o1
      generalize fmtF (stgN l[k]) = fx at *
      generalize l[k] = q at *
      generalize stgsW (l.take k) = ws at *
      clear hba hown
      go_wp2_with fail
      refine HC.out.mono ?_
      rintro e w4 ⟨rfl, hq4⟩
      have hb4 := bel_then hb2 hb2.size hq4
      have hown4 := hown2.now hq4
      have hs4 := hb4.size
      clear hown2 hb2 hq4
      go_wp2_with (at_builtin; go_loud (refine wpList_append_r (c := cS) _ rfl _ _ 46 rfl w.heap.size 9 i0 _ 16 Tryz.underlying46 hi0 hz0 hz1 hz2 rfl (by decide) _ ws 0 rfl hown4 [_] fx ⟨rfl, by unfold maxLen; omega⟩ (fun u hu => by (simp at hu; subst hu; rfl)) _ rfl (by omega) (by omega) (by omega) ?_); intro v' w5 hown5 hf5 hs5)
      go_roundw
      case rel => exact ⟨k + 1, by omega, by go_num, by rw [HT.out]; exact hown5, hf5.keeps (Nat.le_refl _) hs4 hb4⟩
      case measure => simp [intOf]; omega
    · have HE : Hid (stgsW (l.take k) = stgsW l) := Lib.hid (by rw [List.take_of_length_le (by omega)])
      rw [HE.out] at hown
      obtain ⟨A', c', rfl⟩ := hown.form
      have HO := Lib.hid hown
      clear hown HE
      go_wp2_with fail
      go_ret
      exact ⟨A', c', rfl, HO.out, hb⟩
set_option maxRecDepth 100000 in
set_option maxHeartbeats 4000000 in
theorem ends_any (l : List End2) (A : Option Addr) (cap : Nat) (w : World) (E : Env w) (hr : RdS cEnd w (Lt w) A l) (hl : l.length ≤ 40000) :
    Calls Tryz.prog 51 #[.slice A l.length cap] w (RowP w (endsW l)) := by
  obtain ⟨i0, hi0, hz0, hz1, hz2⟩ := info_parts infoStrT
  go_enter Tryz.func51, Tryz.ntmps51
  go_wp2_with fail
  go_loopw [3, 8] (fun s n wr => ∃ k : Nat, k ≤ l.length ∧ n = .int .i64 k ∧ OwnR cS wr w.heap.size 9 s (endsW (l.take k)) 0 ∧ Below w.heap.size w wr) (fun _ n _ => l.length - (intOf n).toNat)
  case atStart => exact ⟨0, Nat.zero_le _, rfl, OwnR.nil _ _ _ _ (Nat.zero_le _), Below.refl _ _⟩
  case round =>
    obtain ⟨k, hk, rfl, hown, hb⟩ := hrel
    have hsz := hb.size
    by_cases hlt : k < l.length
    · have hki : (k : Int) < (l.length : Int) := by omega
      obtain ⟨b, off, hA, lb, ⟨o0, o1⟩, y0, y1⟩ := (hr.now hb).elD hlt
      have HT : Hid (endsW (l.take (k + 1)) = endsW (l.take k) ++ [fmtF (endN l[k])]) := Lib.hid (map_take _ hlt)
      have hkl : (endsW (l.take k)).length ≤ 50000 := by simp [endsW]; omega
      have hba := hb.alloc hsz (.cells #[.int .i64 l[k].el, .int .i64 l[k].sd] 107)
      have hb2 := hba.alloc hba.size (.cells #[.int .i64 l[k].el, .int .i64 l[k].sd] 3)
      have hown2 := (hown.alloc (.cells #[.int .i64 l[k].el, .int .i64 l[k].sd] 107)).alloc (.cells #[.int .i64 l[k].el, .int .i64 l[k].sd] 3)
      have hi3 : ∀ n ∈ endN l[k], I64n n := by intro n hn; simp only [endN, List.mem_cons, List.not_mem_nil, or_false] at hn; rcases hn with rfl | rfl <;> assumption
      have hfl := fmt_len hi3 (by simp [endN])
      have HC := Lib.hid (fmtC (endN l[k]) (wr.heap.size + 1) 3 2 rfl ((wr.alloc (.cells #[.int .i64 l[k].el, .int .i64 l[k].sd] 107)).alloc (.cells #[.int .i64 l[k].el, .int .i64 l[k].sd] 3)) (E.now hb2) (Blk.new _ _ _ _ (by simp)) hi3 (by simp [endN]))
      rw [hA]
      clear hA hi3 o0 o1
      generalize fmtF (endN l[k]) = fx at *
      generalize l[k] = q at *
      generalize endsW (l.take k) = ws at *
      clear hba hown
      go_wp2_with fail
      refine HC.out.mono ?_
      rintro e w4 ⟨rfl, hq4⟩
      have hb4 := bel_then hb2 hb2.size hq4
      have hown4 := hown2.now hq4
      have hs4 := hb4.size
      clear hown2 hb2 hq4
      go_wp2_with (at_builtin; go_loud (refine wpList_append_r (c := cS) _ rfl _ _ 46 rfl w.heap.size 9 i0 _ 16 Tryz.underlying46 hi0 hz0 hz1 hz2 rfl (by decide) _ ws 0 rfl hown4 [_] fx ⟨rfl, by unfold maxLen; omega⟩ (fun u hu => by (simp at hu; subst hu; rfl)) _ rfl (by omega) (by omega) (by omega) ?_); intro v' w5 hown5 hf5 hs5)
      go_roundw
      case rel => exact ⟨k + 1, by omega, by go_num, by rw [HT.out]; exact hown5, hf5.keeps (Nat.le_refl _) hs4 hb4⟩
      case measure => simp [intOf]; omega
    · have HE : Hid (endsW (l.take k) = endsW l) := Lib.hid (by rw [List.take_of_length_le (by omega)])
      rw [HE.out] at hown
      obtain ⟨A', c', rfl⟩ := hown.form
      have HO := Lib.hid hown
      clear hown HE
      go_wp2_with fail
      go_ret
      exact ⟨A', c', rfl, HO.out, hb⟩
set_option maxRecDepth 100000 in
set_option maxHeartbeats 4000000 in
theorem numbers_any (l : List Int) (A : Option Addr) (cap : Nat) (w : World) (E : Env w) (hr : RdS cI w (Lt w) A l) (hl : l.length ≤ 40000) :
    Calls Tryz.prog 50 #[.slice A l.length cap] w (RowP w (numsW l)) := by
  obtain ⟨i0, hi0, hz0, hz1, hz2⟩ := info_parts infoStrT
  go_enter Tryz.func50, Tryz.ntmps50
  go_wp2_with fail
  go_loopw [3, 8] (fun s n wr => ∃ k : Nat, k ≤ l.length ∧ n = .int .i64 k ∧ OwnR cS wr w.heap.size 9 s (numsW (l.take k)) 0 ∧ Below w.heap.size w wr) (fun _ n _ => l.length - (intOf n).toNat)
  case atStart => exact ⟨0, Nat.zero_le _, rfl, OwnR.nil _ _ _ _ (Nat.zero_le _), Below.refl _ _⟩
  case round =>
    obtain ⟨k, hk, rfl, hown, hb⟩ := hrel
    have hsz := hb.size
    by_cases hlt : k < l.length
    · have hki : (k : Int) < (l.length : Int) := by omega
      obtain ⟨b, off, hA, lb, o0, y0⟩ := (hr.now hb).elI hlt
      have HT : Hid (numsW (l.take (k + 1)) = numsW (l.take k) ++ [Lib.itoa l[k]]) := Lib.hid (map_take _ hlt)
      have hkl : (numsW (l.take k)).length ≤ 50000 := by simp [numsW]; omega
      have hfl := itoaP_len l[k] o0
      have Er := E.now hb
      rw [hA]
      clear hA
      generalize l[k] = n at *
      generalize numsW (l.take k) = ws at *
      go_wp2_with fail
      refine (format_any n _ Er o0.1 o0.2).mono ?_
      rintro e w4 ⟨rfl, hq4⟩
      have hb4 := bel_then hb hb.size hq4
      have hown4 := hown.now hq4
      have hs4 := hb4.size
      clear hown hb hq4
      go_wp2_with (at_builtin; go_loud (refine wpList_append_r (c := cS) _ rfl _ _ 46 rfl w.heap.size 9 i0 _ 16 Tryz.underlying46 hi0 hz0 hz1 hz2 rfl (by decide) _ ws 0 rfl hown4 [_] (Lib.itoa n) ⟨rfl, by unfold maxLen; omega⟩ (fun u hu => by (simp at hu; subst hu; rfl)) _ rfl (by omega) (by omega) (by omega) ?_); intro v' w5 hown5 hf5 hs5)
      go_roundw
      case rel => exact ⟨k + 1, by omega, by go_num, by rw [HT.out]; exact hown5, hf5.keeps (Nat.le_refl _) hs4 hb4⟩
      case measure => simp [intOf]; omega
    · have HE : Hid (numsW (l.take k) = numsW l) := Lib.hid (by rw [List.take_of_length_le (by omega)])
      rw [HE.out] at hown
      obtain ⟨A', c', rfl⟩ := hown.form
      have HO := Lib.hid hown
      clear hown HE
      go_wp2_with fail
      go_ret
      exact ⟨A', c', rfl, HO.out, hb⟩
end Go.Proofs.YtlblfblkallnhaaGreatDoor
