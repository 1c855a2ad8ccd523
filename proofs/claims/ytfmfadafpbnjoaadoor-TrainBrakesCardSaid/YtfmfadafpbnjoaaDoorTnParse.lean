/- The walk of train.Parse. -/
import Derived.Test.YtfmfadafpbnjoaaDoorTnParseP
namespace Go.Proofs.YtfmfadafpbnjoaaDoor
set_option linter.unusedVariables false
set_option linter.unusedSimpArgs false
open Go.RowKit
attribute [local go_sem] bs_size bs_get bs_append bs_extract bs_toList
theorem bs_lfT (l : List UInt8) : bs l ++ { data := #[10] } = bs (l ++ [10]) := bs_append l [10]
attribute [local go_sem] bs_lfT
theorem linesC {s : List UInt8} {m : Lns} {n : Nat} {x : Int} (h : linesF s = (m, n, x)) (w : World) (E : Env w) (hs : s.length ≤ maxLen) : Calls Tryd.prog 31 #[.string (bs s)] w fun e w' => ∃ A cap, e = .returned (.tuple #[.slice A m.length cap, .int .i64 n, .int .i64 x]) ∧ m.length ≤ maxLen ∧ RdS (cL cS) w' (Lt w') A m ∧ Below w.heap.size w w' := by
  have h2 := lines_any s w E hs
  rw [h] at h2
  exact h2
theorem rlinesC {s : List UInt8} {m : Lns} {n : Nat} {x : Int} (h : linesF s = (m, n, x)) (w : World) (hs : s.length ≤ maxLen) : Calls Tryd.prog 33 #[.string (bs s)] w fun e w' => ∃ A cap, e = .returned (.tuple #[.slice A m.length cap, .int .i64 n, .int .i64 x]) ∧ m.length ≤ maxLen ∧ RdS (cL cS) w' (Lt w') A m ∧ Below w.heap.size w w' := by
  have h2 := rlines_any s w hs
  rw [h] at h2
  exact h2
theorem intC {s : List UInt8} {n x : Int} (h : intF s = (n, x)) (w : World) (E : EnvR w) (hs : s.length ≤ 281474976710656) :
    Calls Tryd.prog 32 #[.string (bs s)] w fun e w' => e = .returned (.tuple #[.int .i64 n, .int .i64 x]) ∧ Below w.heap.size w w' := by
  have h2 := int_any s w E hs
  rw [h] at h2
  exact h2
/-- The first line's row, and its words. -/
theorem line_at {w : World} {A : Option Addr} {l : List (List UInt8)} (h : RdS (cL cS) w (Lt w) A [l]) : ∃ b off A1 c1, A = some ⟨b, off, none⟩ ∧ w.cell? ⟨b, off, none⟩ = some (.slice A1 l.length c1) ∧ (l.length ≤ maxLen ∧ l.length ≤ c1) ∧ RdS cS w (Lt w) A1 l := by
  obtain ⟨b, off, h1, h2⟩ := h.pick rfl
  obtain ⟨hA, _⟩ := h1 (by simp)
  obtain ⟨u, ⟨A1, c1, hu, hl, hr⟩, hc⟩ := h2 0 l rfl
  simp only [List.cons.injEq, and_true] at hu
  subst hu
  exact ⟨b, off, A1, c1, hA, by simpa using hc, hl, hr⟩
theorem words_at {w : World} {A : Option Addr} {l : List (List UInt8)} (h : RdS cS w (Lt w) A l) (h0 : 0 < l.length) : ∃ b off, A = some ⟨b, off, none⟩ ∧ ∀ (i : Nat) (x : List UInt8), l[i]? = some x → w.cell? ⟨b, off + i, none⟩ = some (.string (bs x)) := by
  obtain ⟨b, off, h1, h2⟩ := h.pick rfl
  obtain ⟨hA, _⟩ := h1 h0
  refine ⟨b, off, hA, fun i x hi => ?_⟩
  obtain ⟨u, ⟨hu, _⟩, hc⟩ := h2 i x hi
  simp only [List.cons.injEq, and_true] at hu
  rw [hc, hu]
set_option maxRecDepth 100000 in
set_option maxHeartbeats 8000000 in
theorem parse_any (s : List UInt8) (w : World) (E : EnvR w) (hs : s.length ≤ 5000) : Calls Tryd.prog 14 #[.string (bs s)] w (PTP w (parT s)) := by
  have hba : Below w.heap.size w (w.alloc (.cells #[.int .i64 0, .string { data := #[] }, .int .i64 0, .int .i64 0, .int .i64 0, .int .i64 0, .int .i64 0, .int .i64 0, .int .i64 0, .int .i64 0] 23)) := (Below.refl _ _).alloc (Nat.le_refl _) _
  have hblk : Blk (w.alloc (.cells #[.int .i64 0, .string { data := #[] }, .int .i64 0, .int .i64 0, .int .i64 0, .int .i64 0, .int .i64 0, .int .i64 0, .int .i64 0, .int .i64 0] 23)) w.heap.size 23 #[.int .i64 0, .string { data := #[] }, .int .i64 0, .int .i64 0, .int .i64 0, .int .i64 0, .int .i64 0, .int .i64 0, .int .i64 0, .int .i64 0] := Blk.new _ _ _ _ rfl
  cases hli : linesF (s ++ [10]) with
  | mk m r =>
  obtain ⟨n, x⟩ := r
  have HLC := Lib.hid fun (W : World) (E : Env W) => linesC hli W E (by unfold maxLen; simp; omega)
  have hsl : (s ++ [10]).length ≤ 5001 := by simp; omega
  obtain ⟨i0, hi0, hz0, hz1, hz2⟩ := info_parts infoStrT
  by_cases hx : x = 0
  · subst hx
    by_cases hm : m.length = 1
    · obtain ⟨l, rfl⟩ : ∃ l, m = [l] := by
        match m, hm with
        | [l], _ => exact ⟨l, rfl⟩
      have HPL := Lib.hid (par_line hli)
      have hlok := lines_ok hli
      have hwl : ∀ y ∈ l, y.length ≤ 64 := fun y hy => (wordB_len ((goodL_iff.1 (List.all_eq_true.1 hlok.1 l (by simp))).2 y hy)).2
      have HWL := Lib.hid hwl
      have hl0 : l ≠ [] := (goodL_iff.1 (List.all_eq_true.1 hlok.1 l (by simp))).1
      have hl0' : 0 < l.length := List.length_pos_iff.2 hl0
      clear hli hlok hwl hl0 hm
      go_enter Tryd.func14, Tryd.ntmps14
      go_wp2_with fail
      refine (HLC.out _ (E.toEnv.now hba)).mono ?_
      rintro e w2 ⟨A, cap, rfl, hml, hr, hb2⟩
      have hblk2 := hblk.now hb2
      have hB2 := bel_then hba hba.size hb2
      have E2 := E.now hB2
      clear hba hblk hb2 HLC
      obtain ⟨b, off, A1, c1, rfl, y0, hl1, hr1⟩ := line_at hr
      obtain ⟨b1, o1, rfl, hcs⟩ := words_at hr1 hl0'
      clear hr
      by_cases h11 : l.length = 11
      · have hd11 : ((l.length : Int) != 11) = false := by simp; omega
        have y1 : w2.cell? ⟨b1, o1, none⟩ = some (.string (bs (l[0]'(by omega)))) := hcs 0 _ (List.getElem?_eq_getElem (by omega))
        by_cases htr : l[0]'(by omega) = trainW
        · have y1t : w2.cell? ⟨b1, o1, none⟩ = some (.string (bs [116, 114, 97, 105, 110])) := by rw [y1, htr]; rfl
          have x1 : w2.cell? ⟨b1, o1 + 1, none⟩ = some (.string (bs (l[1]'(by omega)))) := hcs 1 _ (List.getElem?_eq_getElem (by omega))
          have x2 : w2.cell? ⟨b1, o1 + 2, none⟩ = some (.string (bs (l[2]'(by omega)))) := hcs 2 _ (List.getElem?_eq_getElem (by omega))
          have hd3 : ∀ (j : Nat) (y : List UInt8), (l.drop 3)[j]? = some y → w2.cell? ⟨b1, o1 + 3 + j, none⟩ = some (.string (bs y)) := fun j y hj => by
            rw [List.getElem?_drop] at hj
            have := hcs (3 + j) y hj
            rwa [← Nat.add_assoc] at this
          have HLF := Lib.hid (line_fin h11 (by rw [List.head?_eq_getElem?, List.getElem?_eq_getElem (by omega), htr]) (rfl : listK [] (l.getD 1 [] :: l.drop 3) = _))
          have e1 : l.getD 1 [] = l[1]'(by omega) := by rw [List.getD_eq_getElem?_getD, List.getElem?_eq_getElem (by omega)]; rfl
          have e2 : l.getD 2 [] = l[2]'(by omega) := by rw [List.getD_eq_getElem?_getD, List.getElem?_eq_getElem (by omega)]; rfl
          have hF0 := HLF.out
          rw [e1, e2] at hF0
          have HF0 := Lib.hid (HPL.out.trans hF0)
          have hdl : (l.drop 3).length = 8 := by rw [List.length_drop, h11]
          have hw1 := HWL.out (l[1]'(by omega)) (List.getElem_mem _)
          have hw2 := HWL.out (l[2]'(by omega)) (List.getElem_mem _)
          have hw3 : ∀ y ∈ l.drop 3, y.length ≤ 64 := fun y hy => HWL.out y (List.mem_of_mem_drop hy)
          have HW3 := Lib.hid hw3
          have hc11 := hl1.2
          have HD3 := Lib.hid hd3
          have hlb : b1 < w2.heap.size := cell_lt x1
          clear hF0 HLF e1 e2 hw3 hd3 hcs htr y1 hr1 HPL HWL
          generalize l[1]'(by omega) = p1 at *
          generalize l[2]'(by omega) = nm at *
          generalize l.drop 3 = ls at *
          rw [h11] at y0 hc11 hd11 hl1
          clear h11 hl0'
          have hc3 : ¬ c1 = 3 := by omega
          have hc4 : (3 : Int) ≤ (c1 : Int) := by omega
          go_upto_region 8 with (fail)
          have hal3 := (Below.refl w2.heap.size w2).alloc (Nat.le_refl _) (.cells #[.int .i64 0, .string (bs nm), .int .i64 0, .int .i64 0, .int .i64 0, .int .i64 0, .int .i64 0, .int .i64 0, .int .i64 0, .int .i64 0] 23)
          have hbx : Blk (w2.alloc (.cells #[.int .i64 0, .string (bs nm), .int .i64 0, .int .i64 0, .int .i64 0, .int .i64 0, .int .i64 0, .int .i64 0, .int .i64 0, .int .i64 0] 23)) w2.heap.size 23 (trnV (trnP nm [])).toArray := Blk.new _ _ _ _ rfl
          generalize w2.alloc (.cells #[.int .i64 0, .string (bs nm), .int .i64 0, .int .i64 0, .int .i64 0, .int .i64 0, .int .i64 0, .int .i64 0, .int .i64 0, .int .i64 0] 23) = w3 at *
          have hB3 := bel_then hB2 hB2.size hal3
          have E3 := E2.now hal3
          have hblk3 := hblk2.now hal3
          have x1' : w3.cell? ⟨b1, o1 + 1, none⟩ = some (.string (bs p1)) := (hal3.cell (p := ⟨b1, o1 + 1, none⟩) hlb).trans x1
          have HD3' := Lib.hid fun (j : Nat) (y : List UInt8) (hj : ls[j]? = some y) => ((hal3.cell (p := ⟨b1, o1 + 3 + j, none⟩) hlb).trans (HD3.out j y hj) : w3.cell? ⟨b1, o1 + 3 + j, none⟩ = some (.string (bs y)))
          have hlb3 : b1 < w3.heap.size := Nat.lt_of_lt_of_le hlb hal3.size
          have hgx : w2.heap.size < w3.heap.size := hbx.lt
          have hgw : w.heap.size < w2.heap.size := hblk2.lt
          generalize w2.heap.size = gx at *
          clear x1 x2 y0 y1t HD3 E2 hblk2 hB2 hal3 hlb
          go_wp2_with fail
          go_region_law (go_loud (refine step_append_strs rfl _ _ 46 rfl 9 i0 _ Tryd.underlying46 hi0 hz0 hz1 hz2 rfl w3.heap.size p1 (by simp [Act.eval, Act.put]) (World.cell?_alloc_at _ _ _ _ (by simp)) b1 (o1 + 3) 8 (c1 - 3) ls hdl.symm (by omega) (by omega) (by simp [Act.eval, Act.put]) (fun j y hj => ((((Below.refl w3.heap.size w3).alloc (Nat.le_refl _) _).drew).cell (p := ⟨b1, o1 + 3 + j, none⟩) hlb3).trans (HD3'.out j y hj)) ?_); intro g cap5 w5 hg5 hrow5 hb5)
          have hb35 : Below w3.heap.size w3 w5 := (((Below.refl _ _).alloc (Nat.le_refl _) _).drew).trans (hb5.mono (by simp))
          have hbx5 := hbx.now hb35
          have hblk5 := hblk3.now hb35
          have E5 := E3.now hb35
          have hB5 := bel_then hB3 hB3.size hb35
          have hgg : gx < g := by simp at hg5; omega
          have hgw5 : gx < w5.heap.size := hbx5.lt
          clear hbx hblk3 E3 hB3 hb35 hb5 x1' HD3' hg5
          go_upto_region 10 with (fail)
          have hptr : Blk (w5.alloc (.cells (ptrs gx).toArray 55)) w5.heap.size 55 (ptrs gx).toArray := Blk.new _ _ _ _ rfl
          have hw6 : w5.alloc (.cells (ptrs gx).toArray 55) = w5.alloc (.cells #[.pointer (some ⟨gx, 0, none⟩), .pointer (some ⟨gx, 2, none⟩), .pointer (some ⟨gx, 3, none⟩), .pointer (some ⟨gx, 4, none⟩), .pointer (some ⟨gx, 5, none⟩), .pointer (some ⟨gx, 6, none⟩), .pointer (some ⟨gx, 7, none⟩), .pointer (some ⟨gx, 8, none⟩), .pointer (some ⟨gx, 9, none⟩)] 55) := by rw [ptrs_eq]
          rw [hw6] at hptr
          have hal6 := (Below.refl w5.heap.size w5).alloc (Nat.le_refl _) (.cells (ptrs gx).toArray 55)
          rw [hw6] at hal6
          clear hw6
          have hbx6 := hbx5.now hal6
          have hblk6 := hblk5.now hal6
          have hrow6 := hrow5.now hal6
          have hB6 := bel_then hB5 hB5.size hal6
          have hwx : w.heap.size ≠ gx := by omega
          have hwx2 : w.heap.size ≤ gx := by omega
          have hgg2 : g ≠ gx := by omega
          have hgp : w5.heap.size ≠ gx := by omega
          clear hbx5 hblk5 hrow5 hB5 E5 hal6
          generalize w5.heap.size = gp at *
          go_wp2_with fail
          go_loopw [72] (fun i wr => ∃ (k : Nat) (ns : List Int), i = .int .i64 k ∧ k ≤ 9 ∧ Hid (NR (p1 :: ls) k ns) ∧ Blk wr gx 23 (trnV (trnP nm ns)).toArray ∧ Blk wr gp 55 (ptrs gx).toArray ∧ SRow wr 9 g cap5 (p1 :: ls) ∧ Blk wr w.heap.size 23 #[.int .i64 0, .string { data := #[] }, .int .i64 0, .int .i64 0, .int .i64 0, .int .i64 0, .int .i64 0, .int .i64 0, .int .i64 0, .int .i64 0] ∧ Below w.heap.size w wr) (fun i _ => 9 - (intOf i).toNat)
          case atStart => exact ⟨0, [], rfl, by omega, Lib.hid ⟨rfl, rfl⟩, hbx6, hptr, hrow6, hblk6, hB6⟩
          case round =>
            obtain ⟨k, ns, rfl, hk, HK, hbx, hpt, hrow, hblk, hB⟩ := hrel
            clear hbx6 hptr hrow6 hblk6 hB6
            have Ek := E.now hB
            have hwl : (p1 :: ls).length = 9 := by simp [hdl]
            by_cases hlt : k < 9
            · have hki : (k : Int) < 9 := by omega
              have hkw : k < (p1 :: ls).length := by omega
              have xk : wr.cell? ⟨g, k, none⟩ = some (.string (bs (p1 :: ls)[k])) := (hrow.at hkw).1
              have hwk : (p1 :: ls)[k].length ≤ 64 := by
                rcases List.mem_cons.1 (List.getElem_mem hkw) with h | h
                · rw [h]; exact hw1
                · exact HW3.out _ h
              have pk : wr.cell? ⟨gp, k, none⟩ = some (.pointer (some ⟨gx, qF k, none⟩)) := by
                rw [hpt.cell]
                have := ptrs_at gx hlt
                simpa using this
              cases hin : intF (p1 :: ls)[k] with
              | mk n x =>
              by_cases hx : x = 0
              · subst hx
                have HN := Lib.hid (NR_step HK.out hkw hin)
                have HI := Lib.hid fun (W : World) (E : EnvR W) => intC hin W E (by omega)
                have hnl := HK.out.1
                obtain ⟨u, hu⟩ := hbx.trn_some (qF_lt hlt)
                have hlt9 : ns.length < 9 := by omega
                clear hin
                generalize (p1 :: ls)[k] = wk at *
                generalize p1 :: ls = ws at *
                rw [hwl] at *
                go_wp2_with fail
                refine (HI.out _ Ek).mono ?_
                rintro e w7 ⟨rfl, hb7⟩
                have hbx7 := hbx.now hb7
                have hu7 : w7.cell? ⟨gx, qF k, none⟩ = some u := (hb7.cell (p := ⟨gx, qF k, none⟩) hbx.lt).trans hu
                have hf7 : w7.frozen? ⟨gx, qF k, none⟩ = false := hbx7.free _
                have hbx8 := hbx7.trn_set n hlt9
                rw [hnl] at hbx8
                have hpt8 := (hpt.now hb7).far (p := ⟨gx, qF k, none⟩) hgp (.int .i64 n)
                have hrow8 := (hrow.now hb7).far (j := qF k) (u := .int .i64 n) hgg2
                have hblk8 := (hblk.now hb7).far (p := ⟨gx, qF k, none⟩) hwx (.int .i64 n)
                have hB8 := (bel_then hB hB.size hb7).setCell (p := ⟨gx, qF k, none⟩) hwx2 (.int .i64 n)
                go_wp2_with fail
                go_roundw
                case rel => exact ⟨k + 1, ns ++ [n], by go_num, by omega, HN, hbx8, hpt8, hrow8, hblk8, hB8⟩
                case measure => simp [intOf]; omega
              · have HF : Hid (parT s = (zT, x)) := Lib.hid (by rw [HF0.out, NR_bad HK.out hkw hin hx]; exact fin_bad _ hx _)
                have HI := Lib.hid fun (W : World) (E : EnvR W) => intC hin W E (by omega)
                have hxb : (x != 0) = true := by simpa using hx
                clear hin hx
                generalize (p1 :: ls)[k] = wk at *
                rw [hwl] at *
                go_wp2_with fail
                refine (HI.out _ Ek).mono ?_
                rintro e w7 ⟨rfl, hb7⟩
                have hblk7 := hblk.now hb7
                have hB7 := bel_then hB hB.size hb7
                have z0 : w7.cell? ⟨w.heap.size, 0, none⟩ = some (.int .i64 0) := hblk7.cell 0
                have f0 : w7.frozen? ⟨w.heap.size, 0, none⟩ = false := hblk7.free 0
                have z1 : w7.cell? ⟨w.heap.size, 1, none⟩ = some (.string { data := #[] }) := hblk7.cell 1
                have f1 : w7.frozen? ⟨w.heap.size, 1, none⟩ = false := hblk7.free 1
                have z2 : w7.cell? ⟨w.heap.size, 2, none⟩ = some (.int .i64 0) := hblk7.cell 2
                have f2 : w7.frozen? ⟨w.heap.size, 2, none⟩ = false := hblk7.free 2
                have z3 : w7.cell? ⟨w.heap.size, 3, none⟩ = some (.int .i64 0) := hblk7.cell 3
                have f3 : w7.frozen? ⟨w.heap.size, 3, none⟩ = false := hblk7.free 3
                have z4 : w7.cell? ⟨w.heap.size, 4, none⟩ = some (.int .i64 0) := hblk7.cell 4
                have f4 : w7.frozen? ⟨w.heap.size, 4, none⟩ = false := hblk7.free 4
                have z5 : w7.cell? ⟨w.heap.size, 5, none⟩ = some (.int .i64 0) := hblk7.cell 5
                have f5 : w7.frozen? ⟨w.heap.size, 5, none⟩ = false := hblk7.free 5
                have z6 : w7.cell? ⟨w.heap.size, 6, none⟩ = some (.int .i64 0) := hblk7.cell 6
                have f6 : w7.frozen? ⟨w.heap.size, 6, none⟩ = false := hblk7.free 6
                have z7 : w7.cell? ⟨w.heap.size, 7, none⟩ = some (.int .i64 0) := hblk7.cell 7
                have f7 : w7.frozen? ⟨w.heap.size, 7, none⟩ = false := hblk7.free 7
                have z8 : w7.cell? ⟨w.heap.size, 8, none⟩ = some (.int .i64 0) := hblk7.cell 8
                have f8 : w7.frozen? ⟨w.heap.size, 8, none⟩ = false := hblk7.free 8
                have z9 : w7.cell? ⟨w.heap.size, 9, none⟩ = some (.int .i64 0) := hblk7.cell 9
                have f9 : w7.frozen? ⟨w.heap.size, 9, none⟩ = false := hblk7.free 9
                go_wp2_with fail
                exact bodyPost_ret (v := .tuple #[.agg #[.int .i64 0, .string { data := #[] }, .int .i64 0, .int .i64 0, .int .i64 0, .int .i64 0, .int .i64 0, .int .i64 0, .int .i64 0, .int .i64 0], .int .i64 x]) (by simp [results, Tryd.results14, go_sem, z0, z1, z2, z3, z4, z5, z6, z7, z8, z9]) rfl (ptp_no HF.out rfl ((((((((((hB7.setCell (p := ⟨w.heap.size, 0, none⟩) (Nat.le_refl _) _).setCell (p := ⟨w.heap.size, 1, none⟩) (Nat.le_refl _) _).setCell (p := ⟨w.heap.size, 2, none⟩) (Nat.le_refl _) _).setCell (p := ⟨w.heap.size, 3, none⟩) (Nat.le_refl _) _).setCell (p := ⟨w.heap.size, 4, none⟩) (Nat.le_refl _) _).setCell (p := ⟨w.heap.size, 5, none⟩) (Nat.le_refl _) _).setCell (p := ⟨w.heap.size, 6, none⟩) (Nat.le_refl _) _).setCell (p := ⟨w.heap.size, 7, none⟩) (Nat.le_refl _) _).setCell (p := ⟨w.heap.size, 8, none⟩) (Nat.le_refl _) _).setCell (p := ⟨w.heap.size, 9, none⟩) (Nat.le_refl _) _))
            · obtain rfl : k = 9 := by omega
              have hn9 := HK.out.1
              have hend := NR_end HK.out (by omega)
              have hmk := trnP_mk nm ns hn9
              have hnm : (trnP nm ns).name = nm := rfl
              have HF1T : (∀ c, chkF (mkT nm ns) = c → c ≠ 0 → parT s = (zT, c)) ∧ (chkF (mkT nm ns) = 0 → parT s = (mkT nm ns, 0)) := ⟨fun c h1 h2 => by rw [HF0.out, hend]; exact fin_chk h1 h2, fun h1 => by rw [HF0.out, hend]; exact fin_ok h1⟩
              generalize hp1 : p1 :: ls = ws at *
              clear hp1
              rw [← hmk] at HF1T
              generalize trnP nm ns = t at *
              have htn : t.name.length ≤ maxLen := by rw [hnm]; unfold maxLen; omega
              clear hmk hend hn9 hpt hrow hnm
              have y0 : wr.cell? ⟨gx, 0, none⟩ = some (.int .i64 t.id) := hbx.cell 0
              have y1 : wr.cell? ⟨gx, 1, none⟩ = some (.string (bs t.name)) := hbx.cell 1
              have y2 : wr.cell? ⟨gx, 2, none⟩ = some (.int .i64 t.len) := hbx.cell 2
              have y3 : wr.cell? ⟨gx, 3, none⟩ = some (.int .i64 t.spd) := hbx.cell 3
              have y4 : wr.cell? ⟨gx, 4, none⟩ = some (.int .i64 t.acc) := hbx.cell 4
              have y5 : wr.cell? ⟨gx, 5, none⟩ = some (.int .i64 t.srv) := hbx.cell 5
              have y6 : wr.cell? ⟨gx, 6, none⟩ = some (.int .i64 t.emg) := hbx.cell 6
              have y7 : wr.cell? ⟨gx, 7, none⟩ = some (.int .i64 t.dly) := hbx.cell 7
              have y8 : wr.cell? ⟨gx, 8, none⟩ = some (.int .i64 t.cst) := hbx.cell 8
              have y9 : wr.cell? ⟨gx, 9, none⟩ = some (.int .i64 t.rate) := hbx.cell 9
              obtain ⟨c, hc⟩ : ∃ c, chkF t = c := ⟨_, rfl⟩
              have HC := Lib.hid fun (W : World) => checkC hc W htn
              unfold trnA at HC
              by_cases hc0 : c = 0
              · subst hc0
                have HF := Lib.hid (HF1T.2 hc)
                clear hc HF1T
                go_wp2_with fail
                refine (HC.out _).mono ?_
                rintro e w7 ⟨rfl, hb7⟩
                have hbx7 := hbx.now hb7
                have hblk7 := hblk.now hb7
                have hB7 := bel_then hB hB.size hb7
                clear y0 y1 y2 y3 y4 y5 y6 y7 y8 y9
                have y0 : w7.cell? ⟨gx, 0, none⟩ = some (.int .i64 t.id) := hbx7.cell 0
                have y1 : w7.cell? ⟨gx, 1, none⟩ = some (.string (bs t.name)) := hbx7.cell 1
                have y2 : w7.cell? ⟨gx, 2, none⟩ = some (.int .i64 t.len) := hbx7.cell 2
                have y3 : w7.cell? ⟨gx, 3, none⟩ = some (.int .i64 t.spd) := hbx7.cell 3
                have y4 : w7.cell? ⟨gx, 4, none⟩ = some (.int .i64 t.acc) := hbx7.cell 4
                have y5 : w7.cell? ⟨gx, 5, none⟩ = some (.int .i64 t.srv) := hbx7.cell 5
                have y6 : w7.cell? ⟨gx, 6, none⟩ = some (.int .i64 t.emg) := hbx7.cell 6
                have y7 : w7.cell? ⟨gx, 7, none⟩ = some (.int .i64 t.dly) := hbx7.cell 7
                have y8 : w7.cell? ⟨gx, 8, none⟩ = some (.int .i64 t.cst) := hbx7.cell 8
                have y9 : w7.cell? ⟨gx, 9, none⟩ = some (.int .i64 t.rate) := hbx7.cell 9
                have z0 : w7.cell? ⟨w.heap.size, 0, none⟩ = some (.int .i64 0) := hblk7.cell 0
                have f0 : w7.frozen? ⟨w.heap.size, 0, none⟩ = false := hblk7.free 0
                have z1 : w7.cell? ⟨w.heap.size, 1, none⟩ = some (.string { data := #[] }) := hblk7.cell 1
                have f1 : w7.frozen? ⟨w.heap.size, 1, none⟩ = false := hblk7.free 1
                have z2 : w7.cell? ⟨w.heap.size, 2, none⟩ = some (.int .i64 0) := hblk7.cell 2
                have f2 : w7.frozen? ⟨w.heap.size, 2, none⟩ = false := hblk7.free 2
                have z3 : w7.cell? ⟨w.heap.size, 3, none⟩ = some (.int .i64 0) := hblk7.cell 3
                have f3 : w7.frozen? ⟨w.heap.size, 3, none⟩ = false := hblk7.free 3
                have z4 : w7.cell? ⟨w.heap.size, 4, none⟩ = some (.int .i64 0) := hblk7.cell 4
                have f4 : w7.frozen? ⟨w.heap.size, 4, none⟩ = false := hblk7.free 4
                have z5 : w7.cell? ⟨w.heap.size, 5, none⟩ = some (.int .i64 0) := hblk7.cell 5
                have f5 : w7.frozen? ⟨w.heap.size, 5, none⟩ = false := hblk7.free 5
                have z6 : w7.cell? ⟨w.heap.size, 6, none⟩ = some (.int .i64 0) := hblk7.cell 6
                have f6 : w7.frozen? ⟨w.heap.size, 6, none⟩ = false := hblk7.free 6
                have z7 : w7.cell? ⟨w.heap.size, 7, none⟩ = some (.int .i64 0) := hblk7.cell 7
                have f7 : w7.frozen? ⟨w.heap.size, 7, none⟩ = false := hblk7.free 7
                have z8 : w7.cell? ⟨w.heap.size, 8, none⟩ = some (.int .i64 0) := hblk7.cell 8
                have f8 : w7.frozen? ⟨w.heap.size, 8, none⟩ = false := hblk7.free 8
                have z9 : w7.cell? ⟨w.heap.size, 9, none⟩ = some (.int .i64 0) := hblk7.cell 9
                have f9 : w7.frozen? ⟨w.heap.size, 9, none⟩ = false := hblk7.free 9
                go_wp2_with fail
                exact bodyPost_ret (v := .tuple #[.agg #[.int .i64 t.id, .string (bs t.name), .int .i64 t.len, .int .i64 t.spd, .int .i64 t.acc, .int .i64 t.srv, .int .i64 t.emg, .int .i64 t.dly, .int .i64 t.cst, .int .i64 t.rate], .int .i64 0]) (by simp [results, Tryd.results14, go_sem, z0, z1, z2, z3, z4, z5, z6, z7, z8, z9]) rfl (ptp_at HF.out rfl ((((((((((hB7.setCell (p := ⟨w.heap.size, 0, none⟩) (Nat.le_refl _) _).setCell (p := ⟨w.heap.size, 1, none⟩) (Nat.le_refl _) _).setCell (p := ⟨w.heap.size, 2, none⟩) (Nat.le_refl _) _).setCell (p := ⟨w.heap.size, 3, none⟩) (Nat.le_refl _) _).setCell (p := ⟨w.heap.size, 4, none⟩) (Nat.le_refl _) _).setCell (p := ⟨w.heap.size, 5, none⟩) (Nat.le_refl _) _).setCell (p := ⟨w.heap.size, 6, none⟩) (Nat.le_refl _) _).setCell (p := ⟨w.heap.size, 7, none⟩) (Nat.le_refl _) _).setCell (p := ⟨w.heap.size, 8, none⟩) (Nat.le_refl _) _).setCell (p := ⟨w.heap.size, 9, none⟩) (Nat.le_refl _) _))
              · have HF := Lib.hid (HF1T.1 c hc hc0)
                have hcb : (c != 0) = true := by simpa using hc0
                clear hc HF1T hc0
                go_wp2_with fail
                refine (HC.out _).mono ?_
                rintro e w7 ⟨rfl, hb7⟩
                have hblk7 := hblk.now hb7
                have hB7 := bel_then hB hB.size hb7
                have z0 : w7.cell? ⟨w.heap.size, 0, none⟩ = some (.int .i64 0) := hblk7.cell 0
                have f0 : w7.frozen? ⟨w.heap.size, 0, none⟩ = false := hblk7.free 0
                have z1 : w7.cell? ⟨w.heap.size, 1, none⟩ = some (.string { data := #[] }) := hblk7.cell 1
                have f1 : w7.frozen? ⟨w.heap.size, 1, none⟩ = false := hblk7.free 1
                have z2 : w7.cell? ⟨w.heap.size, 2, none⟩ = some (.int .i64 0) := hblk7.cell 2
                have f2 : w7.frozen? ⟨w.heap.size, 2, none⟩ = false := hblk7.free 2
                have z3 : w7.cell? ⟨w.heap.size, 3, none⟩ = some (.int .i64 0) := hblk7.cell 3
                have f3 : w7.frozen? ⟨w.heap.size, 3, none⟩ = false := hblk7.free 3
                have z4 : w7.cell? ⟨w.heap.size, 4, none⟩ = some (.int .i64 0) := hblk7.cell 4
                have f4 : w7.frozen? ⟨w.heap.size, 4, none⟩ = false := hblk7.free 4
                have z5 : w7.cell? ⟨w.heap.size, 5, none⟩ = some (.int .i64 0) := hblk7.cell 5
                have f5 : w7.frozen? ⟨w.heap.size, 5, none⟩ = false := hblk7.free 5
                have z6 : w7.cell? ⟨w.heap.size, 6, none⟩ = some (.int .i64 0) := hblk7.cell 6
                have f6 : w7.frozen? ⟨w.heap.size, 6, none⟩ = false := hblk7.free 6
                have z7 : w7.cell? ⟨w.heap.size, 7, none⟩ = some (.int .i64 0) := hblk7.cell 7
                have f7 : w7.frozen? ⟨w.heap.size, 7, none⟩ = false := hblk7.free 7
                have z8 : w7.cell? ⟨w.heap.size, 8, none⟩ = some (.int .i64 0) := hblk7.cell 8
                have f8 : w7.frozen? ⟨w.heap.size, 8, none⟩ = false := hblk7.free 8
                have z9 : w7.cell? ⟨w.heap.size, 9, none⟩ = some (.int .i64 0) := hblk7.cell 9
                have f9 : w7.frozen? ⟨w.heap.size, 9, none⟩ = false := hblk7.free 9
                go_wp2_with fail
                exact bodyPost_ret (v := .tuple #[.agg #[.int .i64 0, .string { data := #[] }, .int .i64 0, .int .i64 0, .int .i64 0, .int .i64 0, .int .i64 0, .int .i64 0, .int .i64 0, .int .i64 0], .int .i64 c]) (by simp [results, Tryd.results14, go_sem, z0, z1, z2, z3, z4, z5, z6, z7, z8, z9]) rfl (ptp_no HF.out rfl ((((((((((hB7.setCell (p := ⟨w.heap.size, 0, none⟩) (Nat.le_refl _) _).setCell (p := ⟨w.heap.size, 1, none⟩) (Nat.le_refl _) _).setCell (p := ⟨w.heap.size, 2, none⟩) (Nat.le_refl _) _).setCell (p := ⟨w.heap.size, 3, none⟩) (Nat.le_refl _) _).setCell (p := ⟨w.heap.size, 4, none⟩) (Nat.le_refl _) _).setCell (p := ⟨w.heap.size, 5, none⟩) (Nat.le_refl _) _).setCell (p := ⟨w.heap.size, 6, none⟩) (Nat.le_refl _) _).setCell (p := ⟨w.heap.size, 7, none⟩) (Nat.le_refl _) _).setCell (p := ⟨w.heap.size, 8, none⟩) (Nat.le_refl _) _).setCell (p := ⟨w.heap.size, 9, none⟩) (Nat.le_refl _) _))
        · have HF : Hid (parT s = (zT, 4)) := Lib.hid (by rw [HPL.out]; exact line_no (Or.inr (by rw [List.head?_eq_getElem?, List.getElem?_eq_getElem (by omega)]; simpa using htr)))
          have hdt : ((l[0]'(by omega)) != [116, 114, 97, 105, 110]) = true := by simpa [trainW] using htr
          have hdt2 : ((l[0]'(by omega)) == [116, 114, 97, 105, 110]) = false := by simpa [trainW] using htr
          generalize l[0]'(by omega) = l0 at *
          clear htr
          have z0 : w2.cell? ⟨w.heap.size, 0, none⟩ = some (.int .i64 0) := hblk2.cell 0
          have f0 : w2.frozen? ⟨w.heap.size, 0, none⟩ = false := hblk2.free 0
          have z1 : w2.cell? ⟨w.heap.size, 1, none⟩ = some (.string { data := #[] }) := hblk2.cell 1
          have f1 : w2.frozen? ⟨w.heap.size, 1, none⟩ = false := hblk2.free 1
          have z2 : w2.cell? ⟨w.heap.size, 2, none⟩ = some (.int .i64 0) := hblk2.cell 2
          have f2 : w2.frozen? ⟨w.heap.size, 2, none⟩ = false := hblk2.free 2
          have z3 : w2.cell? ⟨w.heap.size, 3, none⟩ = some (.int .i64 0) := hblk2.cell 3
          have f3 : w2.frozen? ⟨w.heap.size, 3, none⟩ = false := hblk2.free 3
          have z4 : w2.cell? ⟨w.heap.size, 4, none⟩ = some (.int .i64 0) := hblk2.cell 4
          have f4 : w2.frozen? ⟨w.heap.size, 4, none⟩ = false := hblk2.free 4
          have z5 : w2.cell? ⟨w.heap.size, 5, none⟩ = some (.int .i64 0) := hblk2.cell 5
          have f5 : w2.frozen? ⟨w.heap.size, 5, none⟩ = false := hblk2.free 5
          have z6 : w2.cell? ⟨w.heap.size, 6, none⟩ = some (.int .i64 0) := hblk2.cell 6
          have f6 : w2.frozen? ⟨w.heap.size, 6, none⟩ = false := hblk2.free 6
          have z7 : w2.cell? ⟨w.heap.size, 7, none⟩ = some (.int .i64 0) := hblk2.cell 7
          have f7 : w2.frozen? ⟨w.heap.size, 7, none⟩ = false := hblk2.free 7
          have z8 : w2.cell? ⟨w.heap.size, 8, none⟩ = some (.int .i64 0) := hblk2.cell 8
          have f8 : w2.frozen? ⟨w.heap.size, 8, none⟩ = false := hblk2.free 8
          have z9 : w2.cell? ⟨w.heap.size, 9, none⟩ = some (.int .i64 0) := hblk2.cell 9
          have f9 : w2.frozen? ⟨w.heap.size, 9, none⟩ = false := hblk2.free 9
          go_wp2_with fail
          exact bodyPost_ret (v := .tuple #[.agg #[.int .i64 0, .string { data := #[] }, .int .i64 0, .int .i64 0, .int .i64 0, .int .i64 0, .int .i64 0, .int .i64 0, .int .i64 0, .int .i64 0], .int .i64 4]) (by simp [results, Tryd.results14, go_sem, z0, z1, z2, z3, z4, z5, z6, z7, z8, z9]) rfl (ptp_no HF.out rfl ((((((((((hB2.setCell (p := ⟨w.heap.size, 0, none⟩) (Nat.le_refl _) _).setCell (p := ⟨w.heap.size, 1, none⟩) (Nat.le_refl _) _).setCell (p := ⟨w.heap.size, 2, none⟩) (Nat.le_refl _) _).setCell (p := ⟨w.heap.size, 3, none⟩) (Nat.le_refl _) _).setCell (p := ⟨w.heap.size, 4, none⟩) (Nat.le_refl _) _).setCell (p := ⟨w.heap.size, 5, none⟩) (Nat.le_refl _) _).setCell (p := ⟨w.heap.size, 6, none⟩) (Nat.le_refl _) _).setCell (p := ⟨w.heap.size, 7, none⟩) (Nat.le_refl _) _).setCell (p := ⟨w.heap.size, 8, none⟩) (Nat.le_refl _) _).setCell (p := ⟨w.heap.size, 9, none⟩) (Nat.le_refl _) _))
      · have HF : Hid (parT s = (zT, 4)) := Lib.hid (by rw [HPL.out]; exact line_no (Or.inl h11))
        have hd11 : ((l.length : Int) != 11) = true := by simp; omega
        have z0 : w2.cell? ⟨w.heap.size, 0, none⟩ = some (.int .i64 0) := hblk2.cell 0
        have f0 : w2.frozen? ⟨w.heap.size, 0, none⟩ = false := hblk2.free 0
        have z1 : w2.cell? ⟨w.heap.size, 1, none⟩ = some (.string { data := #[] }) := hblk2.cell 1
        have f1 : w2.frozen? ⟨w.heap.size, 1, none⟩ = false := hblk2.free 1
        have z2 : w2.cell? ⟨w.heap.size, 2, none⟩ = some (.int .i64 0) := hblk2.cell 2
        have f2 : w2.frozen? ⟨w.heap.size, 2, none⟩ = false := hblk2.free 2
        have z3 : w2.cell? ⟨w.heap.size, 3, none⟩ = some (.int .i64 0) := hblk2.cell 3
        have f3 : w2.frozen? ⟨w.heap.size, 3, none⟩ = false := hblk2.free 3
        have z4 : w2.cell? ⟨w.heap.size, 4, none⟩ = some (.int .i64 0) := hblk2.cell 4
        have f4 : w2.frozen? ⟨w.heap.size, 4, none⟩ = false := hblk2.free 4
        have z5 : w2.cell? ⟨w.heap.size, 5, none⟩ = some (.int .i64 0) := hblk2.cell 5
        have f5 : w2.frozen? ⟨w.heap.size, 5, none⟩ = false := hblk2.free 5
        have z6 : w2.cell? ⟨w.heap.size, 6, none⟩ = some (.int .i64 0) := hblk2.cell 6
        have f6 : w2.frozen? ⟨w.heap.size, 6, none⟩ = false := hblk2.free 6
        have z7 : w2.cell? ⟨w.heap.size, 7, none⟩ = some (.int .i64 0) := hblk2.cell 7
        have f7 : w2.frozen? ⟨w.heap.size, 7, none⟩ = false := hblk2.free 7
        have z8 : w2.cell? ⟨w.heap.size, 8, none⟩ = some (.int .i64 0) := hblk2.cell 8
        have f8 : w2.frozen? ⟨w.heap.size, 8, none⟩ = false := hblk2.free 8
        have z9 : w2.cell? ⟨w.heap.size, 9, none⟩ = some (.int .i64 0) := hblk2.cell 9
        have f9 : w2.frozen? ⟨w.heap.size, 9, none⟩ = false := hblk2.free 9
        go_wp2_with fail
        exact bodyPost_ret (v := .tuple #[.agg #[.int .i64 0, .string { data := #[] }, .int .i64 0, .int .i64 0, .int .i64 0, .int .i64 0, .int .i64 0, .int .i64 0, .int .i64 0, .int .i64 0], .int .i64 4]) (by simp [results, Tryd.results14, go_sem, z0, z1, z2, z3, z4, z5, z6, z7, z8, z9]) rfl (ptp_no HF.out rfl ((((((((((hB2.setCell (p := ⟨w.heap.size, 0, none⟩) (Nat.le_refl _) _).setCell (p := ⟨w.heap.size, 1, none⟩) (Nat.le_refl _) _).setCell (p := ⟨w.heap.size, 2, none⟩) (Nat.le_refl _) _).setCell (p := ⟨w.heap.size, 3, none⟩) (Nat.le_refl _) _).setCell (p := ⟨w.heap.size, 4, none⟩) (Nat.le_refl _) _).setCell (p := ⟨w.heap.size, 5, none⟩) (Nat.le_refl _) _).setCell (p := ⟨w.heap.size, 6, none⟩) (Nat.le_refl _) _).setCell (p := ⟨w.heap.size, 7, none⟩) (Nat.le_refl _) _).setCell (p := ⟨w.heap.size, 8, none⟩) (Nat.le_refl _) _).setCell (p := ⟨w.heap.size, 9, none⟩) (Nat.le_refl _) _))
    · have HF := Lib.hid (par_many hli hm)
      have hd1 : ((m.length : Int) != 1) = true := by simp; omega
      clear hli hm
      go_enter Tryd.func14, Tryd.ntmps14
      go_wp2_with fail
      refine (HLC.out _ (E.toEnv.now hba)).mono ?_
      rintro e w2 ⟨A, cap, rfl, hml, hr, hb2⟩
      have hblk2 := hblk.now hb2
      have hB2 := bel_then hba hba.size hb2
      have z0 : w2.cell? ⟨w.heap.size, 0, none⟩ = some (.int .i64 0) := hblk2.cell 0
      have f0 : w2.frozen? ⟨w.heap.size, 0, none⟩ = false := hblk2.free 0
      have z1 : w2.cell? ⟨w.heap.size, 1, none⟩ = some (.string { data := #[] }) := hblk2.cell 1
      have f1 : w2.frozen? ⟨w.heap.size, 1, none⟩ = false := hblk2.free 1
      have z2 : w2.cell? ⟨w.heap.size, 2, none⟩ = some (.int .i64 0) := hblk2.cell 2
      have f2 : w2.frozen? ⟨w.heap.size, 2, none⟩ = false := hblk2.free 2
      have z3 : w2.cell? ⟨w.heap.size, 3, none⟩ = some (.int .i64 0) := hblk2.cell 3
      have f3 : w2.frozen? ⟨w.heap.size, 3, none⟩ = false := hblk2.free 3
      have z4 : w2.cell? ⟨w.heap.size, 4, none⟩ = some (.int .i64 0) := hblk2.cell 4
      have f4 : w2.frozen? ⟨w.heap.size, 4, none⟩ = false := hblk2.free 4
      have z5 : w2.cell? ⟨w.heap.size, 5, none⟩ = some (.int .i64 0) := hblk2.cell 5
      have f5 : w2.frozen? ⟨w.heap.size, 5, none⟩ = false := hblk2.free 5
      have z6 : w2.cell? ⟨w.heap.size, 6, none⟩ = some (.int .i64 0) := hblk2.cell 6
      have f6 : w2.frozen? ⟨w.heap.size, 6, none⟩ = false := hblk2.free 6
      have z7 : w2.cell? ⟨w.heap.size, 7, none⟩ = some (.int .i64 0) := hblk2.cell 7
      have f7 : w2.frozen? ⟨w.heap.size, 7, none⟩ = false := hblk2.free 7
      have z8 : w2.cell? ⟨w.heap.size, 8, none⟩ = some (.int .i64 0) := hblk2.cell 8
      have f8 : w2.frozen? ⟨w.heap.size, 8, none⟩ = false := hblk2.free 8
      have z9 : w2.cell? ⟨w.heap.size, 9, none⟩ = some (.int .i64 0) := hblk2.cell 9
      have f9 : w2.frozen? ⟨w.heap.size, 9, none⟩ = false := hblk2.free 9
      go_wp2_with fail
      exact bodyPost_ret (v := .tuple #[.agg #[.int .i64 0, .string { data := #[] }, .int .i64 0, .int .i64 0, .int .i64 0, .int .i64 0, .int .i64 0, .int .i64 0, .int .i64 0, .int .i64 0], .int .i64 4]) (by simp [results, Tryd.results14, go_sem, z0, z1, z2, z3, z4, z5, z6, z7, z8, z9]) rfl (ptp_no HF.out rfl ((((((((((hB2.setCell (p := ⟨w.heap.size, 0, none⟩) (Nat.le_refl _) _).setCell (p := ⟨w.heap.size, 1, none⟩) (Nat.le_refl _) _).setCell (p := ⟨w.heap.size, 2, none⟩) (Nat.le_refl _) _).setCell (p := ⟨w.heap.size, 3, none⟩) (Nat.le_refl _) _).setCell (p := ⟨w.heap.size, 4, none⟩) (Nat.le_refl _) _).setCell (p := ⟨w.heap.size, 5, none⟩) (Nat.le_refl _) _).setCell (p := ⟨w.heap.size, 6, none⟩) (Nat.le_refl _) _).setCell (p := ⟨w.heap.size, 7, none⟩) (Nat.le_refl _) _).setCell (p := ⟨w.heap.size, 8, none⟩) (Nat.le_refl _) _).setCell (p := ⟨w.heap.size, 9, none⟩) (Nat.le_refl _) _))
  · have HF := Lib.hid (par_code hli hx)
    have hxb : (x != 0) = true := by simpa using hx
    clear hli hx
    go_enter Tryd.func14, Tryd.ntmps14
    go_wp2_with fail
    refine (HLC.out _ (E.toEnv.now hba)).mono ?_
    rintro e w2 ⟨A, cap, rfl, hml, hr, hb2⟩
    have hblk2 := hblk.now hb2
    have hB2 := bel_then hba hba.size hb2
    have z0 : w2.cell? ⟨w.heap.size, 0, none⟩ = some (.int .i64 0) := hblk2.cell 0
    have f0 : w2.frozen? ⟨w.heap.size, 0, none⟩ = false := hblk2.free 0
    have z1 : w2.cell? ⟨w.heap.size, 1, none⟩ = some (.string { data := #[] }) := hblk2.cell 1
    have f1 : w2.frozen? ⟨w.heap.size, 1, none⟩ = false := hblk2.free 1
    have z2 : w2.cell? ⟨w.heap.size, 2, none⟩ = some (.int .i64 0) := hblk2.cell 2
    have f2 : w2.frozen? ⟨w.heap.size, 2, none⟩ = false := hblk2.free 2
    have z3 : w2.cell? ⟨w.heap.size, 3, none⟩ = some (.int .i64 0) := hblk2.cell 3
    have f3 : w2.frozen? ⟨w.heap.size, 3, none⟩ = false := hblk2.free 3
    have z4 : w2.cell? ⟨w.heap.size, 4, none⟩ = some (.int .i64 0) := hblk2.cell 4
    have f4 : w2.frozen? ⟨w.heap.size, 4, none⟩ = false := hblk2.free 4
    have z5 : w2.cell? ⟨w.heap.size, 5, none⟩ = some (.int .i64 0) := hblk2.cell 5
    have f5 : w2.frozen? ⟨w.heap.size, 5, none⟩ = false := hblk2.free 5
    have z6 : w2.cell? ⟨w.heap.size, 6, none⟩ = some (.int .i64 0) := hblk2.cell 6
    have f6 : w2.frozen? ⟨w.heap.size, 6, none⟩ = false := hblk2.free 6
    have z7 : w2.cell? ⟨w.heap.size, 7, none⟩ = some (.int .i64 0) := hblk2.cell 7
    have f7 : w2.frozen? ⟨w.heap.size, 7, none⟩ = false := hblk2.free 7
    have z8 : w2.cell? ⟨w.heap.size, 8, none⟩ = some (.int .i64 0) := hblk2.cell 8
    have f8 : w2.frozen? ⟨w.heap.size, 8, none⟩ = false := hblk2.free 8
    have z9 : w2.cell? ⟨w.heap.size, 9, none⟩ = some (.int .i64 0) := hblk2.cell 9
    have f9 : w2.frozen? ⟨w.heap.size, 9, none⟩ = false := hblk2.free 9
    go_wp2_with fail
    exact bodyPost_ret (v := .tuple #[.agg #[.int .i64 0, .string { data := #[] }, .int .i64 0, .int .i64 0, .int .i64 0, .int .i64 0, .int .i64 0, .int .i64 0, .int .i64 0, .int .i64 0], .int .i64 x]) (by simp [results, Tryd.results14, go_sem, z0, z1, z2, z3, z4, z5, z6, z7, z8, z9]) rfl (ptp_no HF.out rfl ((((((((((hB2.setCell (p := ⟨w.heap.size, 0, none⟩) (Nat.le_refl _) _).setCell (p := ⟨w.heap.size, 1, none⟩) (Nat.le_refl _) _).setCell (p := ⟨w.heap.size, 2, none⟩) (Nat.le_refl _) _).setCell (p := ⟨w.heap.size, 3, none⟩) (Nat.le_refl _) _).setCell (p := ⟨w.heap.size, 4, none⟩) (Nat.le_refl _) _).setCell (p := ⟨w.heap.size, 5, none⟩) (Nat.le_refl _) _).setCell (p := ⟨w.heap.size, 6, none⟩) (Nat.le_refl _) _).setCell (p := ⟨w.heap.size, 7, none⟩) (Nat.le_refl _) _).setCell (p := ⟨w.heap.size, 8, none⟩) (Nat.le_refl _) _).setCell (p := ⟨w.heap.size, 9, none⟩) (Nat.le_refl _) _))
end Go.Proofs.YtfmfadafpbnjoaaDoor
