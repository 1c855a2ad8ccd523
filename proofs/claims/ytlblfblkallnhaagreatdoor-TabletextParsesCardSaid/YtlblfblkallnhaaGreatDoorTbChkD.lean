/- slices.Grow, slices.Concat of lists of numbers. -/
import Derived.Test.YtlblfblkallnhaaGreatDoorTbChkA
import Derived.Lib.AppendZeros
namespace Go.Proofs.YtlblfblkallnhaaGreatDoor
set_option linter.unusedVariables false
set_option linter.unusedSimpArgs false
open Go.RowKit
attribute [local go_sem] bs_size bs_get bs_append bs_extract bs_toList
attribute [-go_sem] run_equalIn_agg
theorem infoIntT : (Tryz.prog.info? 3).map (fun i => (i.zero, i.size, i.bytes)) = some (some (.int .i64 0), 1, 8) := by kernel_rfl
theorem zeros_own (w : World) (e : TypeId) (n : Nat) (hn : n ≤ 100000) : (w.drew.alloc (.cells (Builtin.zeroCells #[.int .i64 0] n ++ Builtin.zeroCells #[.int .i64 0] (grownCap w n 0 e - n)) e)).ownsRow w.heap.size e 1 (.slice (some ⟨w.heap.size, 0, none⟩) 0 (grownCap w n 0 e)) 0 [] := by
  have h1 := grownCap_ge w n 0 e
  have h2 := grownCap_le_maxLen w n 0 e (by unfold maxLen; omega)
  refine ⟨by simp, Or.inr ⟨w.heap.size, _, _, rfl, Nat.le_refl _, heap_alloc_new _ _, Nat.zero_le _, h2, ?_, by simp⟩⟩
  simp [size_zeroCells]
  omega
set_option maxRecDepth 100000 in
set_option maxHeartbeats 4000000 in
theorem grow_any (n : Nat) (w : World) (hn : n ≤ 100000) :
    Calls Tryz.prog 98 #[.slice none 0 0, .int .i64 n] w fun e w' => ∃ v, e = .returned v ∧ w'.ownsRow w.heap.size 3 1 v 0 [] ∧ Below w.heap.size w w' := by
  obtain ⟨i0, hi0, hz0, hz1, hz2⟩ := info_parts infoIntT
  by_cases h0 : n = 0
  · subst h0
    go_enter Tryz.func98, Tryz.ntmps98
    go_wp2_with fail
    go_ret
    exact ⟨_, rfl, World.ownsRow_nil _ _ _ _, Below.refl _ _⟩
  · have h1 : ¬ (n : Int) < 0 := by omega
    have h2 : (0 : Int) < (n : Int) := by omega
    have hrun := Lib.run_append_nil_zeros (P := Tryz.prog) w 23 3 23 3 i0 (.int .i64 0) .i64 .i64 Tryz.underlying23 Tryz.underlying3 hi0 hz0 n (by omega) (by omega) (by omega) (by rw [hz2]; omega)
    have HO := Lib.hid (zeros_own w 3 n hn)
    have HB : Hid (Below w.heap.size w (w.drew.alloc (.cells (Builtin.zeroCells #[.int .i64 0] n ++ Builtin.zeroCells #[.int .i64 0] (grownCap w n 0 3 - n)) 3))) := Lib.hid (((Below.refl _ _).drew).alloc (Nat.le_refl _) _)
    have HR := Lib.hid hrun
    clear hrun h0
    go_enter Tryz.func98, Tryz.ntmps98
    go_wp2_with (at_builtin; go_loud (refine Lib.wpList_append_run _ rfl _ _ _ _ rfl _ _ (by rfl) (by rfl) _ _ HR.out ?_))
    go_ret
    exact ⟨_, rfl, HO.out, HB.out⟩
theorem elLI {w : World} {S : Nat → Prop} {A : Option Addr} {ls : List (List Int)} (h : RdS (cL cI) w S A ls) {k : Nat} (hk : k < ls.length) : ∃ b off A' cap', A = some ⟨b, off, none⟩ ∧ w.cell? ⟨b, off + k, none⟩ = some (.slice A' ls[k].length cap') ∧ (ls[k].length ≤ maxLen ∧ ls[k].length ≤ cap') ∧ RdS cI w S A' ls[k] := by
  obtain ⟨b, off, h1, h2⟩ := h.pick rfl
  obtain ⟨u, h3, h4⟩ := h2 k _ (List.getElem?_eq_getElem hk)
  obtain ⟨A', cap', rfl, h5, h6⟩ := cLS_cell2 h3
  exact ⟨b, off, A', cap', (h1 (by omega)).1, h4, h5, h6⟩
theorem ints_one (ys : List Value) (x : Int) {w : World} {S : Nat → Prop} (h : cI.rd w S ys x) : ∀ u ∈ ys, u.oneCell' = true := by
  obtain ⟨rfl, _⟩ := h
  intro u hu
  simp only [List.mem_singleton] at hu
  subst hu
  rfl
def lsum (ls : List (List Int)) (k : Nat) : Nat := ((ls.take k).map List.length).sum
theorem lsum_step {ls : List (List Int)} {k : Nat} (h : k < ls.length) : lsum ls (k + 1) = lsum ls k + ls[k].length := by
  unfold lsum; rw [List.take_succ_eq_append_getElem h, List.map_append, List.sum_append]; simp
theorem lsum_le (ls : List (List Int)) (b : Nat) (h : ∀ l ∈ ls, l.length ≤ b) : ∀ k, k ≤ ls.length → lsum ls k ≤ k * b
  | 0, _ => by simp [lsum]
  | k + 1, hk => by
    have := lsum_le ls b h k (by omega)
    have h2 := h _ (List.getElem_mem (show k < ls.length by omega))
    rw [lsum_step (by omega), Nat.succ_mul]; omega
def flatK (ls : List (List Int)) (k : Nat) : List Int := (ls.take k).flatten
theorem flatK_step {ls : List (List Int)} {k : Nat} (h : k < ls.length) : flatK ls (k + 1) = flatK ls k ++ ls[k] := by
  unfold flatK; rw [List.take_succ_eq_append_getElem h, List.flatten_append]; simp
theorem flatK_len (ls : List (List Int)) (k : Nat) : (flatK ls k).length = lsum ls k := by unfold flatK lsum; rw [List.length_flatten]
theorem flatK_all {ls : List (List Int)} {k : Nat} (h : ¬ k < ls.length) : flatK ls k = ls.flatten := by unfold flatK; rw [List.take_of_length_le (by omega)]
set_option maxRecDepth 100000 in
set_option maxHeartbeats 4000000 in
theorem concat_any (ls : List (List Int)) (A : Option Addr) (cap : Nat) (w : World) (hr : RdS (cL cI) w (Lt w) A ls) (hl : ls.length ≤ 2) (hls : ∀ l ∈ ls, l.length ≤ 40000) :
    Calls Tryz.prog 73 #[.slice A ls.length cap] w fun e w' => ∃ v, e = .returned v ∧ LowR cI w' w.heap.size 3 v ls.flatten ∧ Below w.heap.size w w' := by
  obtain ⟨i0, hi0, hz0, hz1, hz2⟩ := info_parts infoIntT
  have HS := Lib.hid (lsum_le ls 40000 hls)
  have HL := Lib.hid hls
  clear hls
  go_enter Tryz.func73, Tryz.ntmps73
  go_wp2_with fail
  go_loopw [3, 11] (fun s n wr => ∃ k : Nat, k ≤ ls.length ∧ n = .int .i64 k ∧ s = .int .i64 (lsum ls k : Nat) ∧ Hid (wr = w)) (fun _ n _ => ls.length - (intOf n).toNat)
  case atStart => exact ⟨0, Nat.zero_le _, rfl, rfl, Lib.hid rfl⟩
  case round =>
    obtain ⟨k, hk, rfl, rfl, HW⟩ := hrel
    have hw := HW.out.symm
    subst hw
    by_cases hlt : k < ls.length
    · have hki : (k : Int) < (ls.length : Int) := by omega
      obtain ⟨b, off, A', c', rfl, y0, hm, hr'⟩ := elLI hr hlt
      have h1 := HS.out k hk
      have h2 := HS.out (k + 1) hlt
      have h3 := lsum_step hlt
      have hm1 := hm.1
      generalize ls[k] = q at *
      have HQ : Hid (((lsum ls k : Nat) : Int) + (q.length : Int) = ((lsum ls (k + 1) : Nat) : Int)) := Lib.hid (by omega)
      clear h3 hm
      obtain ⟨m1, hm1e⟩ : ∃ m, lsum ls (k + 1) = m := ⟨_, rfl⟩
      rw [hm1e] at h2 HQ
      have HM1 := Lib.hid hm1e
      clear hm1e
      generalize lsum ls k = m0 at *
      have hm0 : (m0 : Int) ≤ 90000 := by omega
      have hq0 : (q.length : Int) ≤ 100000 := by have := HQ.out; omega
      have hneg : ¬ ((m0 : Int) + (q.length : Int) < 0) := by omega
      clear h1 h2
      go_wp2_with fail
      go_round
      case rel => exact ⟨k + 1, by omega, by go_num, by rw [HM1.out, ← HQ.out], Lib.hid (by first | rfl | trivial)⟩
      case measure => simp [intOf]; omega
    · have hsl := HS.out k hk
      obtain ⟨m0, hm0⟩ : ∃ m, lsum ls k = m := ⟨_, rfl⟩
      rw [hm0] at hsl ⊢
      have HM : Hid (m0 = lsum ls k) := Lib.hid hm0.symm
      have HKL : Hid (k = ls.length) := Lib.hid (by omega)
      have HG := Lib.hid (grow_any m0 w (by omega))
      clear hm0 hsl
      go_wp2_with fail
      refine HG.out.mono ?_
      rintro e w1 ⟨v1, rfl, hown1, hb1⟩
      have hlow1 : LowR cI w1 w.heap.size 3 v1 (flatK ls 0) := ⟨[], hown1, rfl, hb1.size⟩
      have hr1 : RdS (cL cI) w1 (fun b => b < w.heap.size) A ls := hr.keep fun p hp => hb1.cell hp
      clear hown1 HG
      go_wp2_with fail
      go_loopw [6, 27] (fun v n wr => ∃ j : Nat, j ≤ ls.length ∧ n = .int .i64 j ∧ LowR cI wr w.heap.size 3 v (flatK ls j) ∧ Below w.heap.size w1 wr) (fun _ n _ => ls.length - (intOf n).toNat)
      case atStart => exact ⟨0, Nat.zero_le _, rfl, hlow1, Below.refl _ _⟩
      case round =>
        obtain ⟨j, hj, rfl, hlow, hb2⟩ := hrel
        clear hlow1
        by_cases hltj : j < ls.length
        · have hji : (j : Int) < (ls.length : Int) := by omega
          obtain ⟨b, off, A', c', hA, y0, hm, hr'⟩ := elLI (hr1.low hb2) hltj
          have HT := Lib.hid (flatK_step hltj)
          have hq1 := HL.out _ (List.getElem_mem hltj)
          have hq2 := HS.out (j + 1) hltj
          have hq5 := lsum_step hltj
          have hq3 := flatK_len ls j
          have hq4 : (flatK ls j).length + ls[j].length ≤ 90000 := by omega
          rw [hA]
          clear hA hq2 hq3 hm hq5
          generalize ls[j] = q at *
          generalize flatK ls j = acc at *
          go_wp2_with (at_builtin; go_loud (refine wpList_append_low (c := cI) _ rfl _ _ 23 rfl w.heap.size 3 i0 _ 8 Tryz.underlying23 hi0 hz0 hz1 hz2 rfl (by decide) _ acc (by rfl) hlow A' c' q (by rfl) hr' (fun ys x h => ints_one ys x h) (by omega) (by omega) ?_); intro v5 w5 hlow5 hb5)
          go_roundw
          case rel => exact ⟨j + 1, by omega, by go_num, by rw [HT.out]; exact hlow5, hb2.trans hb5⟩
          case measure => simp [intOf]; omega
        · have HE := Lib.hid (flatK_all hltj)
          rw [HE.out] at hlow
          have HO := Lib.hid hlow
          have HB := Lib.hid (hb1.trans hb2)
          clear hlow HE
          go_wp2_with fail
          go_ret
          exact ⟨_, rfl, HO.out, HB.out⟩
end Go.Proofs.YtlblfblkallnhaaGreatDoor
