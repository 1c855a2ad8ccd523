/- WordsLimit, walked. -/
import Derived.Test.YtfedhgkpgihmoaaDoorWdLawsB
namespace Go.Proofs.YtfedhgkpgihmoaaDoor
set_option linter.unusedVariables false
set_option linter.unusedSimpArgs false
open Go.RowKit
attribute [local go_sem] bs_size bs_get bs_append bs_extract bs_toList
/-- N lines of one byte, and their text. -/
def linesA (N : Nat) : Lns := List.replicate N [[97]]
def textA (N : Nat) : List UInt8 := textOf (linesA N)
theorem linesA_good (N : Nat) : (linesA N).all goodL = true := by
  rw [List.all_eq_true]
  intro x hx
  rw [linesA, List.mem_replicate] at hx
  rw [hx.2]
  decide
theorem textA_succ (N : Nat) : textA (N + 1) = 97 :: 10 :: textA N := by
  unfold textA linesA
  rw [List.replicate_succ]
  show lineT [[97]] ++ _ = _
  rfl
theorem textA_len : ∀ N, (textA N).length = 2 * N
  | 0 => rfl
  | N + 1 => by rw [textA_succ, List.length_cons, List.length_cons, textA_len N]; omega
theorem textA_get : ∀ (N i : Nat), i < N → (textA N)[2 * i]? = some 97 ∧ (textA N)[2 * i + 1]? = some 10
  | 0, i, h => by omega
  | N + 1, 0, _ => by rw [textA_succ]; exact ⟨rfl, rfl⟩
  | N + 1, i + 1, h => by
    have ih := textA_get N i (by omega)
    rw [textA_succ, show 2 * (i + 1) = 2 * i + 1 + 1 by omega]
    simpa using ih
theorem limit_join (N : Nat) : joinF (linesA N) = if 32768 < 2 * N then ([], 2) else (textA N, 0) := by
  unfold joinF
  rw [if_pos (linesA_good N)]
  have : (textOf (linesA N)).length = 2 * N := textA_len N
  rw [this]
  rfl
theorem limit_lines (N : Nat) : linesF (textA N) = if 32768 < 2 * N then ([], 0, 2) else (linesA N, 0, 0) := by
  by_cases h : 32768 < 2 * N
  · rw [if_pos h]
    unfold linesF
    rw [if_pos (by rw [textA_len]; exact h)]
  · rw [if_neg h]
    exact lines_join (by rw [limit_join, if_neg h])
theorem cnt_linesA (N : Nat) : cnt (linesA N) = N := by simp [cnt, linesA]
theorem made_one (z : Value) (n : Nat) (h : z.cells = #[z]) : madeCells z.cells n = (List.replicate n z).toArray := by
  unfold madeCells
  apply Array.toList_inj.1
  rw [h]
  apply List.ext_getElem?
  intro i
  by_cases hi : i < n
  · simp [hi, Nat.mod_one]
  · simp [hi]
/-- The outer row while it is filled. -/
def rowL (ys : List Value) (n : Nat) : Array Value := (ys ++ List.replicate n (Value.slice none 0 0)).toArray
theorem rowL_set (ys : List Value) (n : Nat) (v : Value) : (rowL ys (n + 1)).setIfInBounds ys.length v = rowL (ys ++ [v]) n := by
  unfold rowL
  apply Array.toList_inj.1
  rw [List.setIfInBounds_toArray, List.set_append_right _ _ (by omega), Nat.sub_self, List.replicate_succ, List.set_cons_zero]
  simp
theorem rowL_get (ys : List Value) (n : Nat) : (rowL ys (n + 1))[ys.length]? = some (.slice none 0 0) := by
  unfold rowL
  rw [List.getElem?_toArray, List.getElem?_append_right (by omega), Nat.sub_self, List.replicate_succ]
  rfl
/-- Blocks above g. -/
def Abv (w : World) (g : Nat) : Nat → Prop := fun b => g < b ∧ b < w.heap.size
/-- What the loop keeps. -/
structure LimI (w : World) (N k : Nat) (wr : World) : Prop where
  bytes : Blk wr w.heap.size 5 (fillA (cellsU8 (textA N)) (2 * N) (2 * k) (.int .u8 0))
  rows : ∃ ys : List Value, ys.length = k ∧ Blk wr (w.heap.size + 1) 33 (rowL ys (N - k)) ∧ RdC (cL cS) wr (Abv wr (w.heap.size + 1)) ys (linesA k)
  below : Below w.heap.size w wr
  size : w.heap.size + 2 ≤ wr.heap.size
theorem LimI.start (w : World) (N : Nat) : LimI w N 0 ((w.alloc (.cells (List.replicate (2 * N) (Value.int .u8 0)).toArray 5)).alloc (.cells (List.replicate N (Value.slice none 0 0)).toArray 33)) := by
  refine ⟨?_, ⟨[], rfl, ?_, rfl⟩, ((Below.refl _ _).alloc (Nat.le_refl _) _).alloc (by simp) _, by simp⟩
  · have : fillA (cellsU8 (textA N)) (2 * N) (2 * 0) (.int .u8 0) = (List.replicate (2 * N) (Value.int .u8 0)).toArray := by simp [fillA]
    rw [this]
    exact (Blk.new _ _ _ _ rfl).alloc _
  · have : rowL [] (N - 0) = (List.replicate N (Value.slice none 0 0)).toArray := by simp [rowL]
    rw [this]
    exact Blk.new _ _ _ _ (by simp)
theorem cellsA_get {N i : Nat} (h : i < N) : (cellsU8 (textA N))[2 * i]? = some (.int .u8 97) ∧ (cellsU8 (textA N))[2 * i + 1]? = some (.int .u8 10) := by
  obtain ⟨h1, h2⟩ := textA_get N i h
  rw [cellsU8_get, cellsU8_get, h1, h2]
  exact ⟨rfl, rfl⟩
theorem cellsA_len (N : Nat) : (cellsU8 (textA N)).length = 2 * N := by rw [cellsU8_length, textA_len]
/-- One round. -/
theorem LimI.step {w wr : World} {N k : Nat} (h : LimI w N k wr) (hk : k < N) :
    LimI w N (k + 1) (((((wr.setCell ⟨w.heap.size, 2 * k, none⟩ (.int .u8 97)).setCell ⟨w.heap.size, 2 * k + 1, none⟩ (.int .u8 10)).alloc (.cells #[.string (bs [97])] 9))).setCell ⟨w.heap.size + 1, k, none⟩ (.slice (some ⟨wr.heap.size, 0, none⟩) 1 1)) := by
  obtain ⟨h1, ⟨ys, hy, h2, h3⟩, h4, h5⟩ := h
  obtain ⟨c1, c2⟩ := cellsA_get hk
  have hl := cellsA_len N
  have hs2 : ((wr.setCell ⟨w.heap.size, 2 * k, none⟩ (.int .u8 97)).setCell ⟨w.heap.size, 2 * k + 1, none⟩ (.int .u8 10)).heap.size = wr.heap.size := by simp [World.setCell]
  have b1 := (h1.set (2 * k) (.int .u8 97)).set (2 * k + 1) (.int .u8 10)
  rw [fillA_set _ _ _ _ _ hl (by omega) c1, fillA_set _ _ _ _ _ hl (by omega) c2] at b1
  have b2 := (h2.far (p := ⟨w.heap.size, 2 * k, none⟩) (by simp) (.int .u8 97)).far (p := ⟨w.heap.size, 2 * k + 1, none⟩) (by simp) (.int .u8 10)
  have b3 := (b2.alloc (.cells #[.string (bs [97])] 9)).set k (.slice (some ⟨wr.heap.size, 0, none⟩) 1 1)
  have hn : N - k = (N - (k + 1)) + 1 := by omega
  rw [hn] at b3
  have b4 := b3
  rw [← hy] at b4
  rw [rowL_set, hy] at b4
  refine ⟨?_, ⟨ys ++ [.slice (some ⟨wr.heap.size, 0, none⟩) 1 1], by simp [hy], b4, ?_⟩, ?_, ?_⟩
  · have e : 2 * (k + 1) = 2 * k + 1 + 1 := by omega
    rw [e]
    exact (b1.alloc _).far (by simp) _
  · have e : linesA (k + 1) = linesA k ++ [[[97]]] := by unfold linesA; rw [List.replicate_succ']
    rw [e]
    have hsame : ∀ b, Abv wr (w.heap.size + 1) b → (((((wr.setCell ⟨w.heap.size, 2 * k, none⟩ (.int .u8 97)).setCell ⟨w.heap.size, 2 * k + 1, none⟩ (.int .u8 10)).alloc (.cells #[.string (bs [97])] 9))).setCell ⟨w.heap.size + 1, k, none⟩ (.slice (some ⟨wr.heap.size, 0, none⟩) 1 1)).heap[b]? = wr.heap[b]? := by
      intro b ⟨hb1, hb2⟩
      rw [Below.heap_setCell _ _ _ _ (show b ≠ w.heap.size + 1 by omega), Below.heap_alloc _ _ _ (by rw [hs2]; exact hb2), Below.heap_setCell _ _ _ _ (show b ≠ w.heap.size by omega), Below.heap_setCell _ _ _ _ (show b ≠ w.heap.size by omega)]
    refine RdC.snoc ((h3.keep fun p hp => cell_same (hsame _ hp)).more fun b ⟨g1, g2⟩ => ⟨g1, by simp [World.setCell]; omega⟩) ?_
    refine ⟨some ⟨wr.heap.size, 0, none⟩, 1, rfl, ⟨by unfold maxLen; simp, by simp⟩, ?_⟩
    have hr := rds_new ((wr.setCell ⟨w.heap.size, 2 * k, none⟩ (.int .u8 97)).setCell ⟨w.heap.size, 2 * k + 1, none⟩ (.int .u8 10)) [[97]] 9 wr.heap.size hs2.symm (by intro x hx; simp at hx; subst hx; unfold maxLen; simp) (fun b => b = wr.heap.size) rfl
    refine (hr.keep fun p hp => cell_same ?_).more fun b hb => ⟨by rw [hb]; omega, by rw [hb]; simp [World.setCell]⟩
    exact Below.heap_setCell _ _ _ _ (by rw [hp]; show wr.heap.size ≠ w.heap.size + 1; omega)
  · refine (((h4.setCell ?_ _).setCell ?_ _).alloc ?_ _).setCell ?_ _
    · exact Nat.le_refl _
    · exact Nat.le_refl _
    · rw [hs2]; omega
    · show w.heap.size ≤ w.heap.size + 1; omega
  · simp [World.setCell]; omega
theorem LimI.facts {w wr : World} {N k : Nat} (h : LimI w N k wr) (hk : k < N) :
    wr.cell? ⟨w.heap.size, 2 * k, none⟩ = some (.int .u8 0) ∧ wr.cell? ⟨w.heap.size, 2 * k + 1, none⟩ = some (.int .u8 0) ∧ wr.cell? ⟨w.heap.size + 1, k, none⟩ = some (.slice none 0 0) ∧ (∀ j, wr.frozen? ⟨w.heap.size, j, none⟩ = false) ∧ ∀ j, wr.frozen? ⟨w.heap.size + 1, j, none⟩ = false := by
  obtain ⟨h1, ⟨ys, hy, h2, h3⟩, h4, h5⟩ := h
  have hl := cellsA_len N
  refine ⟨?_, ?_, ?_, h1.free, h2.free⟩
  · rw [h1.cell, fillA_get _ _ _ _ hl (by omega)]
  · rw [h1.cell]
    unfold fillA
    rw [List.getElem?_toArray, List.getElem?_append_right (by rw [List.length_take]; omega), List.getElem?_replicate, if_pos (by rw [List.length_take]; omega)]
  · rw [h2.cell, show N - k = (N - (k + 1)) + 1 by omega]
    conv => lhs; rw [← hy]
    rw [hy]
    have := rowL_get ys (N - (k + 1))
    rw [hy] at this
    exact this
theorem LimI.facts2 {w wr : World} {N k : Nat} (h : LimI w N k wr) (hk : k < N) :
    (((wr.setCell ⟨w.heap.size, 2 * k, none⟩ (.int .u8 97)).setCell ⟨w.heap.size, 2 * k + 1, none⟩ (.int .u8 10)).alloc (.cells #[.string { data := #[97] }] 9)).cell? ⟨w.heap.size + 1, k, none⟩ = some (.slice none 0 0) ∧
    (((wr.setCell ⟨w.heap.size, 2 * k, none⟩ (.int .u8 97)).setCell ⟨w.heap.size, 2 * k + 1, none⟩ (.int .u8 10)).alloc (.cells #[.string { data := #[97] }] 9)).frozen? ⟨w.heap.size + 1, k, none⟩ = false := by
  have hf := (h.facts hk).2.2.1
  obtain ⟨h1, ⟨ys, hy, h2, h3⟩, h4, h5⟩ := h
  have b2 := ((h2.far (p := ⟨w.heap.size, 2 * k, none⟩) (by simp) (.int .u8 97)).far (p := ⟨w.heap.size, 2 * k + 1, none⟩) (by simp) (.int .u8 10)).alloc (.cells #[.string { data := #[97] }] 9)
  refine ⟨?_, b2.free _⟩
  rw [b2.cell, ← h2.cell]
  exact hf
theorem LimI.rds {w wr : World} {N : Nat} (h : LimI w N N wr) : RdS (cL cS) wr (Lt wr) (some ⟨w.heap.size + 1, 0, none⟩) (linesA N) := by
  obtain ⟨h1, ⟨ys, hy, h2, h3⟩, h4, h5⟩ := h
  refine fun _ => ⟨_, _, rfl, show _ < _ by omega, fun i x hx => ?_⟩
  obtain ⟨zs, g1, g2⟩ := h3.get hx
  refine ⟨zs, (cL cS).more g1 fun b hb => hb.2, fun j u hu => ?_⟩
  rw [h2.cell, Nat.zero_add]
  unfold rowL
  rw [Nat.sub_self, List.replicate_zero, List.append_nil, List.getElem?_toArray]
  exact g2 j u hu
theorem LimI.bytesAt {w wr : World} {N : Nat} (h : LimI w N N wr) : ∀ j c, (textA N)[j]? = some c → wr.cell? ⟨w.heap.size, j, none⟩ = some (.int .u8 (c.toNat : Int)) := by
  intro j c hj
  rw [h.bytes.cell, fillA_all _ _ _ (cellsA_len N), List.getElem?_toArray, cellsU8_get, hj]
  rfl
set_option maxRecDepth 100000 in
set_option maxHeartbeats 8000000 in
theorem wordsLimit_walk (n : Int) (w : World) (E : Env w) (hn : I64n n) : Calls Tryd.prog 5 #[.int .i64 n] w (True1 w) := by
  obtain ⟨hn1, hn2⟩ := hn
  by_cases hg : 0 ≤ n ∧ n ≤ 20000
  · obtain ⟨N, rfl⟩ : ∃ N : Nat, n = N := ⟨n.toNat, by omega⟩
    have hN : N ≤ 20000 := by omega
    clear hg hn1 hn2
    obtain ⟨i0, hi, hz0, hz1, hz2⟩ := info_parts infoByteC
    obtain ⟨j0, hj, hy0, hy1, hy2⟩ := info_parts infoStrs
    have mk1 : ∀ W : World, (Instr.makeSlice 32 (.int .i64 (2 * (N : Int))) (.int .i64 (2 * (N : Int)))).run Tryd.prog W = .ok (.slice (some ⟨W.heap.size, 0, none⟩) (2 * N) (2 * N)) (W.alloc (.cells (List.replicate (2 * N) (Value.int .u8 0)).toArray 5)) := fun W => by
      have h := run_make (P := Tryd.prog) W 32 5 i0 (.int .u8 0) Tryd.underlying32 hi hz0 .i64 .i64 (2 * (N : Int)) (2 * (N : Int)) (by omega) (by omega) (by rw [hz2]; omega) (by omega)
      rw [hz1, show (2 * (N : Int)).toNat = 2 * N by omega, Nat.mul_one, made_one _ _ rfl] at h
      exact h
    have mk2 : ∀ W : World, (Instr.makeSlice 23 (.int .i64 (N : Int)) (.int .i64 (N : Int))).run Tryd.prog W = .ok (.slice (some ⟨W.heap.size, 0, none⟩) N N) (W.alloc (.cells (List.replicate N (Value.slice none 0 0)).toArray 33)) := fun W => by
      have h := run_make (P := Tryd.prog) W 23 33 j0 (.slice none 0 0) Tryd.underlying23 hj hy0 .i64 .i64 (N : Int) (N : Int) (by omega) (by omega) (by rw [hy2]; omega) (by omega)
      rw [hy1, show ((N : Int)).toNat = N by omega, Nat.mul_one, made_one _ _ rfl] at h
      exact h
    have hst := LimI.start w N
    go_enter Tryd.func5, Tryd.ntmps5
    go_wp2_with fail
    clear mk1 mk2
    go_loopw [5] (fun i wr => ∃ k : Nat, k ≤ N ∧ i = .int .i64 k ∧ LimI w N k wr) (fun i _ => N - (intOf i).toNat)
    case atStart => exact ⟨0, Nat.zero_le _, rfl, hst⟩
    case round =>
      obtain ⟨k, hk, rfl, hI⟩ := hrel
      by_cases hlt : k < N
      · obtain ⟨f1, f2, f3, f4, f5⟩ := hI.facts hlt
        obtain ⟨g1, g2⟩ := hI.facts2 hlt
        have hS := hI.step hlt
        have HS := Lib.hid hS
        have hsz := hI.size
        have ff1 := f4 (2 * k)
        have ff2 := f4 (2 * k + 1)
        have ff3 := f5 k
        have t1 : (2 * (k : Int)).toNat = 2 * k := by omega
        have t2 : (2 * (k : Int) + 1).toNat = 2 * k + 1 := by omega
        have n1 : ¬ (w.heap.size + 1 = w.heap.size) := by omega
        clear f4 f5 hS hst
        go_wp2_with fail
        go_roundw
        case rel => exact ⟨k + 1, by omega, by go_num, HS.out⟩
        case measure => simp [intOf]; omega
      · obtain rfl : k = N := by omega
        have hb0 := hI.below
        have hrl := hI.rds
        have hby := Lib.hid hI.bytesAt
        have hll : (linesA k).length = k := by simp [linesA]
        have hlt2 := textA_len k
        have HLN := Lib.hid (limit_lines k)
        have HJN := Lib.hid (limit_join k)
        have HCT := Lib.hid (cnt_linesA k)
        clear hst hI
        have hcv := conv_cells (P := Tryd.prog) wr Tryd.underlying32 Tryd.underlying5 Tryd.underlying9 w.heap.size (2 * k) (2 * k) (textA k) hlt2 hby.out
        have E0 := E.now hb0
        have hj0 : ∀ W, RdS (cL cS) W (Lt W) (some ⟨w.heap.size + 1, 0, none⟩) (linesA k) → ∀ t x, joinF (linesA k) = (t, x) → Calls Tryd.prog 16 #[.slice (some ⟨w.heap.size + 1, 0, none⟩) k k] W fun e w' => e = .returned (.tuple #[.string (bs t), .int .i64 x]) ∧ Below W.heap.size W w' := fun W hr t x h => by
          have := joinC h (some ⟨w.heap.size + 1, 0, none⟩) k W hr (by rw [hll]; omega) (by rw [HCT.out]; omega)
          rw [hll] at this
          exact this
        have HJ0 := Lib.hid hj0
        have hs0 : ∀ W (A : Option Addr) (ca : Nat), RdS (cL cS) W (Lt W) A (linesA k) → RdS (cL cS) W (Lt W) (some ⟨w.heap.size + 1, 0, none⟩) (linesA k) → Calls Tryd.prog 14 #[.slice A k ca, .slice (some ⟨w.heap.size + 1, 0, none⟩) k k] W fun e w' => e = .returned (.bool true) ∧ Below W.heap.size W w' := fun W A ca h1 h2 => by
          have := sameC (a := linesA k) (b := linesA k) (r := true) (by simp) A (some ⟨w.heap.size + 1, 0, none⟩) ca k W h1 h2 (by rw [hll]; unfold maxLen; omega) (by rw [hll]; unfold maxLen; omega)
          rw [hll] at this
          exact this
        have HS0 := Lib.hid hs0
        clear hj0 hs0
        by_cases hbig : 32768 < 2 * k
        · have HL2 : Hid (linesF (textA k) = ([], 0, 2)) := Lib.hid (by rw [HLN.out, if_pos hbig])
          have HJ2 : Hid (joinF (linesA k) = ([], 2)) := Lib.hid (by rw [HJN.out, if_pos hbig])
          have H1 := Lib.hid hll
          have H2 := Lib.hid hlt2
          clear hll hlt2
          go_wp2_with fail
          refine (linesC HL2.out _ E0 (by rw [H2.out]; unfold maxLen; omega)).mono ?_
          rintro e w1 ⟨A1, c1, rfl, _, _, hb1⟩
          have hB1 := bel_then hb0 hb0.size hb1
          have hrl1 := hrl.now hb1
          clear hcv hrl
          go_wp2_with fail
          refine (HJ0.out _ hrl1 _ _ HJ2.out).mono ?_
          rintro e w2 ⟨rfl, hb2⟩
          have hB2 := bel_then hB1 hB1.size hb2
          go_wp2_with fail
          refine (alive_any _ (E.now hB2)).mono ?_
          rintro e w3 ⟨rfl, hb3⟩
          go_wp2_with fail
          go_ret
          exact ⟨rfl, bel_then hB2 hB2.size hb3⟩
        · have HL2 : Hid (linesF (textA k) = (linesA k, 0, 0)) := Lib.hid (by rw [HLN.out, if_neg hbig])
          have HJ2 : Hid (joinF (linesA k) = (textA k, 0)) := Lib.hid (by rw [HJN.out, if_neg hbig])
          have H1 := Lib.hid hll
          have H2 := Lib.hid hlt2
          have hbig2 : 2 * k ≤ 32768 := by omega
          clear hll hlt2 hbig
          go_wp2_with fail
          have hlc := linesC HL2.out wr E0 (by rw [H2.out]; unfold maxLen; omega)
          refine hlc.mono ?_
          rintro e w1 ⟨A1, c1, rfl, _, hr1, hb1⟩
          have hB1 := bel_then hb0 hb0.size hb1
          have hrl1 := hrl.now hb1
          simp only at hr1
          rw [H1.out]
          clear hcv hrl hlc
          go_wp2_with fail
          refine (HJ0.out _ hrl1 _ _ HJ2.out).mono ?_
          rintro e w2 ⟨rfl, hb2⟩
          have hB2 := bel_then hB1 hB1.size hb2
          have hrl2 := hrl1.now hb2
          have hr2 := hr1.now hb2
          clear hrl1 hr1
          go_wp2_with fail
          refine (HS0.out _ _ _ hr2 hrl2).mono ?_
          rintro e w3 ⟨rfl, hb3⟩
          have hB3 := bel_then hB2 hB2.size hb3
          have hbz : Below wr.heap.size wr w3 := bel_then (bel_then hb1 hb1.size hb2) (Nat.le_trans hb1.size hb2.size) hb3
          have hcv3 := conv_cells (P := Tryd.prog) w3 Tryd.underlying32 Tryd.underlying5 Tryd.underlying9 w.heap.size (2 * k) (2 * k) (textA k) H2.out (fun j c hj => (hbz.cell (cell_lt (hby.out j c hj))).trans (hby.out j c hj))
          go_wp2_with fail
          refine (alive_any _ (E.now hB3)).mono ?_
          rintro e w4 ⟨rfl, hb4⟩
          go_wp2_with fail
          go_ret
          exact ⟨rfl, bel_then hB3 hB3.size hb4⟩
  · have HAL := Lib.hid (fun W EW => alive_any W EW)
    go_enter Tryd.func5, Tryd.ntmps5
    go_wp2_with fail
    all_goals first
      | (exfalso; omega)
      | (refine (HAL.out _ E).mono ?_
         rintro e w1 ⟨rfl, hb1⟩
         go_wp2_with fail
         go_ret
         exact ⟨rfl, hb1⟩)
end Go.Proofs.YtfedhgkpgihmoaaDoor
