/- The walk of the reference's Parse. -/
import Derived.Test.YtfmfadafpbnjoaaDoorTnParse
namespace Go.Proofs.YtfmfadafpbnjoaaDoor
set_option linter.unusedVariables false
set_option linter.unusedSimpArgs false
open Go.RowKit
attribute [local go_sem] bs_size bs_get bs_append bs_extract bs_toList
attribute [local go_sem] bs_lfT
theorem infoIntT : (Tryd.prog.info? 3).map (fun i => (i.zero, i.size, i.bytes)) = some (some (.int .i64 0), 1, 8) := by kernel_rfl
@[irreducible] def kF (ii : Nat) : Nat := if ii = 1 then 0 else if ii = 2 then 1 else ii - 2
theorem kF_succ {ii : Nat} (h1 : 1 ≤ ii) (h2 : ii ≠ 2) : kF (ii + 1) = kF ii + 1 := by
  unfold kF
  by_cases h : ii = 1
  · subst h; rfl
  · rw [if_neg h, if_neg h2, if_neg (by omega), if_neg (by omega)]; omega
theorem kF_lt {ii : Nat} (h : ii < 11) : kF ii < 9 := by
  unfold kF
  by_cases h1 : ii = 1
  · rw [if_pos h1]; omega
  · rw [if_neg h1]
    by_cases h2 : ii = 2
    · rw [if_pos h2]; omega
    · rw [if_neg h2]; omega
theorem kF_vals : kF 1 = 0 ∧ kF 2 = 1 ∧ kF 3 = 1 ∧ kF 11 = 9 := by unfold kF; decide
theorem intF_i64 (s : List UInt8) : I64n (intF s).1 := by
  unfold intF
  dsimp only []
  repeat' split
  all_goals first
    | exact ⟨by decide, by decide⟩
    | (rename_i h; revert h; generalize val _ = u; intro h; constructor <;> dsimp only [] <;> omega)
theorem ints_at {w : World} {A : Option Addr} {l : List Int} (h : RdS cI w (Lt w) A l) (h0 : 0 < l.length) : ∃ b off, A = some ⟨b, off, none⟩ ∧ ∀ (i : Nat) (x : Int), l[i]? = some x → w.cell? ⟨b, off + i, none⟩ = some (.int .i64 x) := by
  obtain ⟨b, off, h1, h2⟩ := h.pick rfl
  obtain ⟨hA, _⟩ := h1 h0
  refine ⟨b, off, hA, fun i x hi => ?_⟩
  obtain ⟨u, ⟨hu, _⟩, hc⟩ := h2 i x hi
  simp only [List.cons.injEq, and_true] at hu
  rw [hc, hu]
def QS (w0 : World) (b9 o9 : Nat) (m1 m2 m3 m4 m5 m6 m7 m8 m9 : Int) (b1 o1 : Nat) (nm : List UInt8) (w' : World) : Prop := w'.cell? ⟨b9, o9, none⟩ = some (.int .i64 m1) ∧ w'.cell? ⟨b9, o9 + 1, none⟩ = some (.int .i64 m2) ∧ w'.cell? ⟨b9, o9 + 2, none⟩ = some (.int .i64 m3) ∧ w'.cell? ⟨b9, o9 + 3, none⟩ = some (.int .i64 m4) ∧ w'.cell? ⟨b9, o9 + 4, none⟩ = some (.int .i64 m5) ∧ w'.cell? ⟨b9, o9 + 5, none⟩ = some (.int .i64 m6) ∧ w'.cell? ⟨b9, o9 + 6, none⟩ = some (.int .i64 m7) ∧ w'.cell? ⟨b9, o9 + 7, none⟩ = some (.int .i64 m8) ∧ w'.cell? ⟨b9, o9 + 8, none⟩ = some (.int .i64 m9) ∧ w'.cell? ⟨b1, o1 + 2, none⟩ = some (.string (bs nm)) ∧ (Below w0.heap.size w0 w' ∧ b9 < w0.heap.size ∧ b1 < w0.heap.size)
theorem QS.now {w0 w w' : World} {b9 o9 : Nat} {m1 m2 m3 m4 m5 m6 m7 m8 m9 : Int} {b1 o1 : Nat} {nm : List UInt8} (h : QS w0 b9 o9 m1 m2 m3 m4 m5 m6 m7 m8 m9 b1 o1 nm w) (hb : Below w.heap.size w w') : QS w0 b9 o9 m1 m2 m3 m4 m5 m6 m7 m8 m9 b1 o1 nm w' := by
  obtain ⟨h0, h1, h2, h3, h4, h5, h6, h7, h8, h9, h10, h11, h12⟩ := h
  have k : ∀ q, w'.cell? ⟨b9, q, none⟩ = w.cell? ⟨b9, q, none⟩ := fun q => hb.cell (p := ⟨b9, q, none⟩) (Nat.lt_of_lt_of_le h11 h10.size)
  have k1 : ∀ q, w'.cell? ⟨b1, q, none⟩ = w.cell? ⟨b1, q, none⟩ := fun q => hb.cell (p := ⟨b1, q, none⟩) (Nat.lt_of_lt_of_le h12 h10.size)
  exact ⟨(k _).trans h0, (k _).trans h1, (k _).trans h2, (k _).trans h3, (k _).trans h4, (k _).trans h5, (k _).trans h6, (k _).trans h7, (k _).trans h8, (k1 _).trans h9, bel_then h10 h10.size hb, h11, h12⟩
theorem qs_drew {w0 w : World} {b9 o9 : Nat} {m1 m2 m3 m4 m5 m6 m7 m8 m9 : Int} {b1 o1 : Nat} {nm : List UInt8} (h : QS w0 b9 o9 m1 m2 m3 m4 m5 m6 m7 m8 m9 b1 o1 nm w) : QS w0 b9 o9 m1 m2 m3 m4 m5 m6 m7 m8 m9 b1 o1 nm w.drew := h.now (Below.refl _ _).drew
theorem rintC {s : List UInt8} {n x : Int} (h : intF s = (n, x)) (w : World) (hs : s.length ≤ maxLen) :
    Calls Tryd.prog 34 #[.string (bs s)] w fun e w' => e = .returned (.tuple #[.int .i64 n, .int .i64 x]) ∧ w = w' := by
  have h2 := rint_any s w hs
  rw [h] at h2
  exact h2
set_option maxRecDepth 100000 in
set_option maxHeartbeats 8000000 in
theorem rparse_any (s : List UInt8) (w : World) (hs : s.length ≤ 5000) : Calls Tryd.prog 15 #[.string (bs s)] w (PTP w (parT s)) := by
  have hba : Below w.heap.size w (w.alloc (.cells #[.int .i64 0, .string { data := #[] }, .int .i64 0, .int .i64 0, .int .i64 0, .int .i64 0, .int .i64 0, .int .i64 0, .int .i64 0, .int .i64 0] 23)) := (Below.refl _ _).alloc (Nat.le_refl _) _
  have hblk : Blk (w.alloc (.cells #[.int .i64 0, .string { data := #[] }, .int .i64 0, .int .i64 0, .int .i64 0, .int .i64 0, .int .i64 0, .int .i64 0, .int .i64 0, .int .i64 0] 23)) w.heap.size 23 #[.int .i64 0, .string { data := #[] }, .int .i64 0, .int .i64 0, .int .i64 0, .int .i64 0, .int .i64 0, .int .i64 0, .int .i64 0, .int .i64 0] := Blk.new _ _ _ _ rfl
  cases hli : linesF (s ++ [10]) with
  | mk m r =>
  obtain ⟨n, x⟩ := r
  have HLC := Lib.hid fun (W : World) => rlinesC hli W (by unfold maxLen; simp; omega)
  have hsl : (s ++ [10]).length ≤ 5001 := by simp; omega
  obtain ⟨i0, hi0, hz0, hz1, hz2⟩ := info_parts infoStrT
  by_cases hx : x = 0
  · subst hx
    by_cases hm : m.length = 1
    · obtain ⟨l, rfl⟩ : ∃ l, m = [l] := by
        match m, hm with
        | [l], _ => exact ⟨l, rfl⟩
      have HPL := Lib.hid (par_line hli)
      have hlok := lines_ok hli
      have hwl : ∀ y ∈ l, y.length ≤ 64 := fun y hy => (wordB_len ((goodL_iff.1 (List.all_eq_true.1 hlok.1 l (by simp))).2 y hy)).2
      have HWL := Lib.hid hwl
      have hl0 : l ≠ [] := (goodL_iff.1 (List.all_eq_true.1 hlok.1 l (by simp))).1
      have hl0' : 0 < l.length := List.length_pos_iff.2 hl0
      clear hli hlok hwl hl0 hm
      go_enter Tryd.func15, Tryd.ntmps15
      go_wp2_with fail
      refine (HLC.out _).mono ?_
      rintro e w2 ⟨A, cap, rfl, hml, hr, hb2⟩
      have hblk2 := hblk.now hb2
      have hB2 := bel_then hba hba.size hb2
      clear hba hblk hb2 HLC
      obtain ⟨b, off, A1, c1, rfl, y0, hl1, hr1⟩ := line_at hr
      obtain ⟨b1, o1, rfl, hcs⟩ := words_at hr1 hl0'
      clear hr
      by_cases h11 : l.length = 11
      · have hd11 : ((l.length : Int) != 11) = false := by simp; omega
        have y1 : w2.cell? ⟨b1, o1, none⟩ = some (.string (bs (l[0]'(by omega)))) := hcs 0 _ (List.getElem?_eq_getElem (by omega))
        by_cases htr : l[0]'(by omega) = trainW
        · have y1t : w2.cell? ⟨b1, o1, none⟩ = some (.string (bs [116, 114, 97, 105, 110])) := by rw [y1, htr]; rfl
          have x2 : w2.cell? ⟨b1, o1 + 2, none⟩ = some (.string (bs (l[2]'(by omega)))) := hcs 2 _ (List.getElem?_eq_getElem (by omega))
          have HLF := Lib.hid (line_fin h11 (by rw [List.head?_eq_getElem?, List.getElem?_eq_getElem (by omega), htr]) (rfl : listK [] (l.getD 1 [] :: l.drop 3) = _))
          have e1 : l.getD 1 [] = l[1]'(by omega) := by rw [List.getD_eq_getElem?_getD, List.getElem?_eq_getElem (by omega)]; rfl
          have e2 : l.getD 2 [] = l[2]'(by omega) := by rw [List.getD_eq_getElem?_getD, List.getElem?_eq_getElem (by omega)]; rfl
          have hF0 := HLF.out
          rw [e1, e2] at hF0
          have HF0 := Lib.hid (HPL.out.trans hF0)
          have hdl : (l.drop 3).length = 8 := by rw [List.length_drop, h11]
          have hw1 := HWL.out (l[1]'(by omega)) (List.getElem_mem _)
          have hw2 := HWL.out (l[2]'(by omega)) (List.getElem_mem _)
          have hw3 : ∀ y ∈ l.drop 3, y.length ≤ 64 := fun y hy => HWL.out y (List.mem_of_mem_drop hy)
          have HW3 := Lib.hid hw3
          have hc11 := hl1.2
          have hcw : ∀ (ii : Nat) (y : List UInt8), 1 ≤ ii → ii ≠ 2 → (l[1]'(by omega) :: l.drop 3)[kF ii]? = some y → w2.cell? ⟨b1, o1 + ii, none⟩ = some (.string (bs y)) := fun ii y h1 h2 hy => by
            unfold kF at hy
            by_cases hi1 : ii = 1
            · subst hi1
              rw [if_pos rfl] at hy
              simp at hy
              subst hy
              exact hcs 1 _ (List.getElem?_eq_getElem (by omega))
            · rw [if_neg hi1, if_neg h2] at hy
              obtain ⟨q, rfl⟩ : ∃ q, ii = q + 3 := ⟨ii - 3, by omega⟩
              rw [show q + 3 - 2 = q + 1 by omega, List.getElem?_cons_succ, List.getElem?_drop] at hy
              have := hcs _ y hy
              rw [show q + 3 = 3 + q by omega]
              exact this
          have HCW := Lib.hid hcw
          have hlb : b1 < w2.heap.size := cell_lt x2
          clear hF0 HLF e1 e2 hw3 hcw hcs htr y1 hr1 HPL HWL
          generalize l[1]'(by omega) = p1 at *
          generalize l[2]'(by omega) = nm at *
          generalize l.drop 3 = ls at *
          rw [h11] at y0 hc11 hd11 hl1
          clear h11 hl0'
          have hwl : (p1 :: ls).length = 9 := by simp [hdl]
          have HW9 : Hid (∀ y ∈ p1 :: ls, y.length ≤ 64) := Lib.hid (fun y hy => by
            rcases List.mem_cons.1 hy with h | h
            · rw [h]; exact hw1
            · exact HW3.out _ h)
          generalize p1 :: ls = ws at *
          clear HW3 hdl hw1
          obtain ⟨j0, hj, hy0, hy1, hy2⟩ := info_parts infoIntT
          have hgw : w.heap.size < w2.heap.size := hblk2.lt
          go_wp2_with fail
          go_loopw [8, 9] (fun v i wr => ∃ (ii : Nat) (ns : List Int), i = .int .i64 ii ∧ (1 ≤ ii ∧ ii ≤ 11) ∧ Hid (NR ws (kF ii) ns) ∧ OwnR cI wr w2.heap.size 3 v ns 0 ∧ Below w2.heap.size w2 wr) (fun _ i _ => 12 - (intOf i).toNat)
          case atStart => exact ⟨1, [], rfl, by omega, Lib.hid (by rw [kF_vals.1]; exact ⟨rfl, rfl⟩), OwnR.nil _ _ _ _ (Nat.zero_le _), Below.refl _ _⟩
          case round =>
            obtain ⟨ii, ns, rfl, ⟨hi1, hi2⟩, HK, hown, hbr⟩ := hrel
            have hsz := hbr.size
            have hnl := HK.out.1
            by_cases hlt : ii < 11
            · have hki : (ii : Int) < 11 := by omega
              by_cases h2 : ii = 2
              · subst h2
                have HN : Hid (NR ws (kF 3) ns) := Lib.hid (by have := HK.out; rw [kF_vals.2.1] at this; rw [kF_vals.2.2.1]; exact this)
                rw [show ((2 : Nat) : Int) = (2 : Int) from rfl]
                go_wp2_with fail
                go_roundw
                case rel => exact ⟨3, ns, by go_num, by omega, HN, hown, hbr⟩
                case measure => simp [intOf]
              · have hne : ((ii : Int) == 2) = false := by rw [beq_eq_false_iff_ne]; omega
                have hkl : kF ii < ws.length := by rw [hwl]; exact kF_lt hlt
                have hks : kF (ii + 1) = kF ii + 1 := kF_succ hi1 h2
                have xk : wr.cell? ⟨b1, o1 + ii, none⟩ = some (.string (bs ws[kF ii])) := (hbr.cell (p := ⟨b1, o1 + ii, none⟩) hlb).trans (HCW.out ii _ hi1 h2 (List.getElem?_eq_getElem hkl))
                have hwk := HW9.out _ (List.getElem_mem hkl)
                have hnl9 : ns.length ≤ 9 := by rw [hwl] at hkl; omega
                have hk11 : (ii : Int) < ((11 : Nat) : Int) := by omega
                cases hin : intF ws[kF ii] with
                | mk n x =>
                have hni : I64n n := by have := intF_i64 ws[kF ii]; rw [hin] at this; exact this
                by_cases hx : x = 0
                · subst hx
                  have HN : Hid (NR ws (kF (ii + 1)) (ns ++ [n])) := Lib.hid (by rw [hks]; exact NR_step HK.out hkl hin)
                  have HI := Lib.hid fun (W : World) => rintC hin W (by unfold maxLen; omega)
                  clear hin hks
                  generalize ws[kF ii] = wk at *
                  go_wp2_with fail
                  refine (HI.out _).mono ?_
                  rintro e w7 ⟨rfl, rfl⟩
                  go_wp2_with (at_builtin; go_loud (refine wpList_append_r (c := cI) _ rfl _ _ 47 rfl w2.heap.size 3 j0 _ 8 Tryd.underlying47 hj hy0 hy1 hy2 rfl (by decide) _ ns 0 rfl hown [_] n ⟨rfl, hni⟩ (fun u hu => by (simp at hu; subst hu; rfl)) _ rfl (by omega) (by omega) (by omega) ?_); intro v' w5 hown5 hf5 hs5)
                  go_roundw
                  case rel => exact ⟨ii + 1, ns ++ [n], by go_num, by omega, HN, hown5, hf5.keeps (Nat.le_refl _) hsz hbr⟩
                  case measure => simp [intOf]; omega
                · have HF : Hid (parT s = (zT, x)) := Lib.hid (by rw [HF0.out, NR_bad HK.out hkl hin hx]; exact fin_bad _ hx _)
                  have HI := Lib.hid fun (W : World) => rintC hin W (by unfold maxLen; omega)
                  have hxb : (x != 0) = true := by simpa using hx
                  have hblk7 := hblk2.now hbr
                  have hB7 := bel_then hB2 hB2.size hbr
                  obtain ⟨A9, c9, rfl⟩ := hown.form
                  clear hin hx hks
                  generalize ws[kF ii] = wk at *
                  have z0 : wr.cell? ⟨w.heap.size, 0, none⟩ = some (.int .i64 0) := hblk7.cell 0
                  have f0 : wr.frozen? ⟨w.heap.size, 0, none⟩ = false := hblk7.free 0
                  have z1 : wr.cell? ⟨w.heap.size, 1, none⟩ = some (.string { data := #[] }) := hblk7.cell 1
                  have f1 : wr.frozen? ⟨w.heap.size, 1, none⟩ = false := hblk7.free 1
                  have z2 : wr.cell? ⟨w.heap.size, 2, none⟩ = some (.int .i64 0) := hblk7.cell 2
                  have f2 : wr.frozen? ⟨w.heap.size, 2, none⟩ = false := hblk7.free 2
                  have z3 : wr.cell? ⟨w.heap.size, 3, none⟩ = some (.int .i64 0) := hblk7.cell 3
                  have f3 : wr.frozen? ⟨w.heap.size, 3, none⟩ = false := hblk7.free 3
                  have z4 : wr.cell? ⟨w.heap.size, 4, none⟩ = some (.int .i64 0) := hblk7.cell 4
                  have f4 : wr.frozen? ⟨w.heap.size, 4, none⟩ = false := hblk7.free 4
                  have z5 : wr.cell? ⟨w.heap.size, 5, none⟩ = some (.int .i64 0) := hblk7.cell 5
                  have f5 : wr.frozen? ⟨w.heap.size, 5, none⟩ = false := hblk7.free 5
                  have z6 : wr.cell? ⟨w.heap.size, 6, none⟩ = some (.int .i64 0) := hblk7.cell 6
                  have f6 : wr.frozen? ⟨w.heap.size, 6, none⟩ = false := hblk7.free 6
                  have z7 : wr.cell? ⟨w.heap.size, 7, none⟩ = some (.int .i64 0) := hblk7.cell 7
                  have f7 : wr.frozen? ⟨w.heap.size, 7, none⟩ = false := hblk7.free 7
                  have z8 : wr.cell? ⟨w.heap.size, 8, none⟩ = some (.int .i64 0) := hblk7.cell 8
                  have f8 : wr.frozen? ⟨w.heap.size, 8, none⟩ = false := hblk7.free 8
                  have z9 : wr.cell? ⟨w.heap.size, 9, none⟩ = some (.int .i64 0) := hblk7.cell 9
                  have f9 : wr.frozen? ⟨w.heap.size, 9, none⟩ = false := hblk7.free 9
                  go_wp2_with fail
                  refine (HI.out _).mono ?_
                  rintro e w7 ⟨rfl, rfl⟩
                  go_wp2_with fail
                  exact bodyPost_ret (v := .tuple #[.agg #[.int .i64 0, .string { data := #[] }, .int .i64 0, .int .i64 0, .int .i64 0, .int .i64 0, .int .i64 0, .int .i64 0, .int .i64 0, .int .i64 0], .int .i64 x]) (by simp [results, Tryd.results15, go_sem, z0, z1, z2, z3, z4, z5, z6, z7, z8, z9]) rfl (ptp_no HF.out rfl ((((((((((hB7.setCell (p := ⟨w.heap.size, 0, none⟩) (Nat.le_refl _) _).setCell (p := ⟨w.heap.size, 1, none⟩) (Nat.le_refl _) _).setCell (p := ⟨w.heap.size, 2, none⟩) (Nat.le_refl _) _).setCell (p := ⟨w.heap.size, 3, none⟩) (Nat.le_refl _) _).setCell (p := ⟨w.heap.size, 4, none⟩) (Nat.le_refl _) _).setCell (p := ⟨w.heap.size, 5, none⟩) (Nat.le_refl _) _).setCell (p := ⟨w.heap.size, 6, none⟩) (Nat.le_refl _) _).setCell (p := ⟨w.heap.size, 7, none⟩) (Nat.le_refl _) _).setCell (p := ⟨w.heap.size, 8, none⟩) (Nat.le_refl _) _).setCell (p := ⟨w.heap.size, 9, none⟩) (Nat.le_refl _) _))
            · obtain rfl : ii = 11 := by omega
              have hn9 : ns.length = 9 := by rw [hnl]; exact kF_vals.2.2.2
              have hend := NR_end HK.out (by rw [hwl, kF_vals.2.2.2]; omega)
              have HF1 := HF0.out
              rw [hend] at HF1
              obtain ⟨A9, c9, rfl, hcap9, hr9⟩ := hown.reads2
              obtain ⟨b9, o9, rfl, hc9⟩ := ints_at hr9 (by omega)
              obtain ⟨m1, m2, m3, m4, m5, m6, m7, m8, m9, rfl⟩ := nine hn9
              have q0 : wr.cell? ⟨b9, o9, none⟩ = some (.int .i64 m1) := hc9 0 _ rfl
              have q1 : wr.cell? ⟨b9, o9 + 1, none⟩ = some (.int .i64 m2) := hc9 1 _ rfl
              have q2 : wr.cell? ⟨b9, o9 + 2, none⟩ = some (.int .i64 m3) := hc9 2 _ rfl
              have q3 : wr.cell? ⟨b9, o9 + 3, none⟩ = some (.int .i64 m4) := hc9 3 _ rfl
              have q4 : wr.cell? ⟨b9, o9 + 4, none⟩ = some (.int .i64 m5) := hc9 4 _ rfl
              have q5 : wr.cell? ⟨b9, o9 + 5, none⟩ = some (.int .i64 m6) := hc9 5 _ rfl
              have q6 : wr.cell? ⟨b9, o9 + 6, none⟩ = some (.int .i64 m7) := hc9 6 _ rfl
              have q7 : wr.cell? ⟨b9, o9 + 7, none⟩ = some (.int .i64 m8) := hc9 7 _ rfl
              have q8 : wr.cell? ⟨b9, o9 + 8, none⟩ = some (.int .i64 m9) := hc9 8 _ rfl
              have x2r : wr.cell? ⟨b1, o1 + 2, none⟩ = some (.string (bs nm)) := (hbr.cell (p := ⟨b1, o1 + 2, none⟩) hlb).trans x2
              have hblk7 := hblk2.now hbr
              have hB7 := bel_then hB2 hB2.size hbr
              rw [show (([m1, m2, m3, m4, m5, m6, m7, m8, m9] : List Int).length) = 9 from rfl]
              rw [show ((11 : Nat) : Int) = (11 : Int) from rfl]
              clear hc9 hr9 hown hn9 hnl hend HCW HW9 hblk2 hB2 x2 y1t y0 HK
              go_upto_region 16 with (fail)
              have hQS : QS wr b9 o9 m1 m2 m3 m4 m5 m6 m7 m8 m9 b1 o1 nm wr := ⟨q0, q1, q2, q3, q4, q5, q6, q7, q8, x2r, Below.refl _ _, cell_lt q0, Nat.lt_of_lt_of_le hlb hbr.size⟩
              go_region_held3 (fun w' => w'.cell? ⟨b9, o9, none⟩ = some (.int .i64 m1) ∧ w'.cell? ⟨b9, o9 + 1, none⟩ = some (.int .i64 m2) ∧ w'.cell? ⟨b9, o9 + 2, none⟩ = some (.int .i64 m3) ∧ w'.cell? ⟨b9, o9 + 3, none⟩ = some (.int .i64 m4) ∧ w'.cell? ⟨b9, o9 + 4, none⟩ = some (.int .i64 m5) ∧ w'.cell? ⟨b9, o9 + 5, none⟩ = some (.int .i64 m6) ∧ w'.cell? ⟨b9, o9 + 6, none⟩ = some (.int .i64 m7) ∧ w'.cell? ⟨b9, o9 + 7, none⟩ = some (.int .i64 m8) ∧ w'.cell? ⟨b9, o9 + 8, none⟩ = some (.int .i64 m9) ∧ w'.cell? ⟨b1, o1 + 2, none⟩ = some (.string (bs nm)) ∧ (Below wr.heap.size wr w' ∧ b9 < wr.heap.size ∧ b1 < wr.heap.size)) (first | assumption | exact qs_drew ‹_› | (refine QS.now ‹_› ?_; assumption) | (refine QS.now hQS ?_; (repeat' (first | (with_reducible exact Below.refl _ _) | (with_reducible assumption) | (with_reducible refine Below.drewN ?_ _) | (with_reducible refine Below.drew ?_) | (with_reducible refine Below.alloc ?_ ?_ _) | (with_reducible refine Below.setCell ?_ ?_ _) | (with_reducible exact Nat.le_refl _) | (with_reducible exact Below.size (by assumption)) | omega | (simp only [World.size_alloc, World.size_setCell, World.size_drew]; omega) | (simp; done) | (simp; omega))))) (fail)
              clear q0 q1 q2 q3 q4 q5 q6 q7 q8 x2r hQS
              obtain ⟨t, ht⟩ : ∃ t : Trn, t = ⟨m1, nm, m2, m3, m4, m5, m6, m7, m8, m9⟩ := ⟨_, rfl⟩
              have hmk : mkT nm [m1, m2, m3, m4, m5, m6, m7, m8, m9] = t := ht.symm
              have hbx : Blk (wr.alloc (.cells #[.int .i64 m1, .string (bs nm), .int .i64 m2, .int .i64 m3, .int .i64 m4, .int .i64 m5, .int .i64 m6, .int .i64 m7, .int .i64 m8, .int .i64 m9] 23)).drew wr.heap.size 23 (trnV t).toArray := by rw [ht]; exact (Blk.new _ _ _ _ rfl).drew
              have hal : Below wr.heap.size wr (wr.alloc (.cells #[.int .i64 m1, .string (bs nm), .int .i64 m2, .int .i64 m3, .int .i64 m4, .int .i64 m5, .int .i64 m6, .int .i64 m7, .int .i64 m8, .int .i64 m9] 23)).drew := ((Below.refl _ _).alloc (Nat.le_refl _) _).drew
              have htn : t.name.length ≤ maxLen := by rw [ht]; unfold maxLen; show nm.length ≤ _; omega
              have HF1T : (∀ c, chkF t = c → c ≠ 0 → parT s = (zT, c)) ∧ (chkF t = 0 → parT s = (t, 0)) := by
                rw [← hmk]
                exact ⟨fun c h1 h2 => by rw [HF1]; exact fin_chk h1 h2, fun h1 => by rw [HF1]; exact fin_ok h1⟩
              have hblk := hblk7.now hal
              have hB := bel_then hB7 hB7.size hal
              clear HF1 hblk7 hB7 hal hmk ht HF0 hbr hsz
              generalize (wr.alloc (.cells #[.int .i64 m1, .string (bs nm), .int .i64 m2, .int .i64 m3, .int .i64 m4, .int .i64 m5, .int .i64 m6, .int .i64 m7, .int .i64 m8, .int .i64 m9] 23)).drew = w4 at *
              generalize wr.heap.size = gx at *
              have y0 : w4.cell? ⟨gx, 0, none⟩ = some (.int .i64 t.id) := hbx.cell 0
              have y1 : w4.cell? ⟨gx, 1, none⟩ = some (.string (bs t.name)) := hbx.cell 1
              have y2 : w4.cell? ⟨gx, 2, none⟩ = some (.int .i64 t.len) := hbx.cell 2
              have y3 : w4.cell? ⟨gx, 3, none⟩ = some (.int .i64 t.spd) := hbx.cell 3
              have y4 : w4.cell? ⟨gx, 4, none⟩ = some (.int .i64 t.acc) := hbx.cell 4
              have y5 : w4.cell? ⟨gx, 5, none⟩ = some (.int .i64 t.srv) := hbx.cell 5
              have y6 : w4.cell? ⟨gx, 6, none⟩ = some (.int .i64 t.emg) := hbx.cell 6
              have y7 : w4.cell? ⟨gx, 7, none⟩ = some (.int .i64 t.dly) := hbx.cell 7
              have y8 : w4.cell? ⟨gx, 8, none⟩ = some (.int .i64 t.cst) := hbx.cell 8
              have y9 : w4.cell? ⟨gx, 9, none⟩ = some (.int .i64 t.rate) := hbx.cell 9
              obtain ⟨c, hc⟩ : ∃ c, chkF t = c := ⟨_, rfl⟩
              have HC := Lib.hid fun (W : World) => rcheckC hc W htn
              unfold trnA at HC
              by_cases hc0 : c = 0
              · subst hc0
                have HF := Lib.hid (HF1T.2 hc)
                clear hc HF1T
                go_wp2_with fail
                refine (HC.out _).mono ?_
                rintro e w7 ⟨rfl, hb7⟩
                have hbx7 := hbx.now hb7
                have hblk7 := hblk.now hb7
                have hB7 := bel_then hB hB.size hb7
                clear y0 y1 y2 y3 y4 y5 y6 y7 y8 y9
                have y0 : w7.cell? ⟨gx, 0, none⟩ = some (.int .i64 t.id) := hbx7.cell 0
                have y1 : w7.cell? ⟨gx, 1, none⟩ = some (.string (bs t.name)) := hbx7.cell 1
                have y2 : w7.cell? ⟨gx, 2, none⟩ = some (.int .i64 t.len) := hbx7.cell 2
                have y3 : w7.cell? ⟨gx, 3, none⟩ = some (.int .i64 t.spd) := hbx7.cell 3
                have y4 : w7.cell? ⟨gx, 4, none⟩ = some (.int .i64 t.acc) := hbx7.cell 4
                have y5 : w7.cell? ⟨gx, 5, none⟩ = some (.int .i64 t.srv) := hbx7.cell 5
                have y6 : w7.cell? ⟨gx, 6, none⟩ = some (.int .i64 t.emg) := hbx7.cell 6
                have y7 : w7.cell? ⟨gx, 7, none⟩ = some (.int .i64 t.dly) := hbx7.cell 7
                have y8 : w7.cell? ⟨gx, 8, none⟩ = some (.int .i64 t.cst) := hbx7.cell 8
                have y9 : w7.cell? ⟨gx, 9, none⟩ = some (.int .i64 t.rate) := hbx7.cell 9
                have z0 : w7.cell? ⟨w.heap.size, 0, none⟩ = some (.int .i64 0) := hblk7.cell 0
                have f0 : w7.frozen? ⟨w.heap.size, 0, none⟩ = false := hblk7.free 0
                have z1 : w7.cell? ⟨w.heap.size, 1, none⟩ = some (.string { data := #[] }) := hblk7.cell 1
                have f1 : w7.frozen? ⟨w.heap.size, 1, none⟩ = false := hblk7.free 1
                have z2 : w7.cell? ⟨w.heap.size, 2, none⟩ = some (.int .i64 0) := hblk7.cell 2
                have f2 : w7.frozen? ⟨w.heap.size, 2, none⟩ = false := hblk7.free 2
                have z3 : w7.cell? ⟨w.heap.size, 3, none⟩ = some (.int .i64 0) := hblk7.cell 3
                have f3 : w7.frozen? ⟨w.heap.size, 3, none⟩ = false := hblk7.free 3
                have z4 : w7.cell? ⟨w.heap.size, 4, none⟩ = some (.int .i64 0) := hblk7.cell 4
                have f4 : w7.frozen? ⟨w.heap.size, 4, none⟩ = false := hblk7.free 4
                have z5 : w7.cell? ⟨w.heap.size, 5, none⟩ = some (.int .i64 0) := hblk7.cell 5
                have f5 : w7.frozen? ⟨w.heap.size, 5, none⟩ = false := hblk7.free 5
                have z6 : w7.cell? ⟨w.heap.size, 6, none⟩ = some (.int .i64 0) := hblk7.cell 6
                have f6 : w7.frozen? ⟨w.heap.size, 6, none⟩ = false := hblk7.free 6
                have z7 : w7.cell? ⟨w.heap.size, 7, none⟩ = some (.int .i64 0) := hblk7.cell 7
                have f7 : w7.frozen? ⟨w.heap.size, 7, none⟩ = false := hblk7.free 7
                have z8 : w7.cell? ⟨w.heap.size, 8, none⟩ = some (.int .i64 0) := hblk7.cell 8
                have f8 : w7.frozen? ⟨w.heap.size, 8, none⟩ = false := hblk7.free 8
                have z9 : w7.cell? ⟨w.heap.size, 9, none⟩ = some (.int .i64 0) := hblk7.cell 9
                have f9 : w7.frozen? ⟨w.heap.size, 9, none⟩ = false := hblk7.free 9
                go_wp2_with fail
                exact bodyPost_ret (v := .tuple #[.agg #[.int .i64 t.id, .string (bs t.name), .int .i64 t.len, .int .i64 t.spd, .int .i64 t.acc, .int .i64 t.srv, .int .i64 t.emg, .int .i64 t.dly, .int .i64 t.cst, .int .i64 t.rate], .int .i64 0]) (by simp [results, Tryd.results15, go_sem, z0, z1, z2, z3, z4, z5, z6, z7, z8, z9]) rfl (ptp_at HF.out rfl ((((((((((hB7.setCell (p := ⟨w.heap.size, 0, none⟩) (Nat.le_refl _) _).setCell (p := ⟨w.heap.size, 1, none⟩) (Nat.le_refl _) _).setCell (p := ⟨w.heap.size, 2, none⟩) (Nat.le_refl _) _).setCell (p := ⟨w.heap.size, 3, none⟩) (Nat.le_refl _) _).setCell (p := ⟨w.heap.size, 4, none⟩) (Nat.le_refl _) _).setCell (p := ⟨w.heap.size, 5, none⟩) (Nat.le_refl _) _).setCell (p := ⟨w.heap.size, 6, none⟩) (Nat.le_refl _) _).setCell (p := ⟨w.heap.size, 7, none⟩) (Nat.le_refl _) _).setCell (p := ⟨w.heap.size, 8, none⟩) (Nat.le_refl _) _).setCell (p := ⟨w.heap.size, 9, none⟩) (Nat.le_refl _) _))
              · have HF := Lib.hid (HF1T.1 c hc hc0)
                have hcb : (c != 0) = true := by simpa using hc0
                clear hc HF1T hc0
                go_wp2_with fail
                refine (HC.out _).mono ?_
                rintro e w7 ⟨rfl, hb7⟩
                have hblk7 := hblk.now hb7
                have hB7 := bel_then hB hB.size hb7
                have z0 : w7.cell? ⟨w.heap.size, 0, none⟩ = some (.int .i64 0) := hblk7.cell 0
                have f0 : w7.frozen? ⟨w.heap.size, 0, none⟩ = false := hblk7.free 0
                have z1 : w7.cell? ⟨w.heap.size, 1, none⟩ = some (.string { data := #[] }) := hblk7.cell 1
                have f1 : w7.frozen? ⟨w.heap.size, 1, none⟩ = false := hblk7.free 1
                have z2 : w7.cell? ⟨w.heap.size, 2, none⟩ = some (.int .i64 0) := hblk7.cell 2
                have f2 : w7.frozen? ⟨w.heap.size, 2, none⟩ = false := hblk7.free 2
                have z3 : w7.cell? ⟨w.heap.size, 3, none⟩ = some (.int .i64 0) := hblk7.cell 3
                have f3 : w7.frozen? ⟨w.heap.size, 3, none⟩ = false := hblk7.free 3
                have z4 : w7.cell? ⟨w.heap.size, 4, none⟩ = some (.int .i64 0) := hblk7.cell 4
                have f4 : w7.frozen? ⟨w.heap.size, 4, none⟩ = false := hblk7.free 4
                have z5 : w7.cell? ⟨w.heap.size, 5, none⟩ = some (.int .i64 0) := hblk7.cell 5
                have f5 : w7.frozen? ⟨w.heap.size, 5, none⟩ = false := hblk7.free 5
                have z6 : w7.cell? ⟨w.heap.size, 6, none⟩ = some (.int .i64 0) := hblk7.cell 6
                have f6 : w7.frozen? ⟨w.heap.size, 6, none⟩ = false := hblk7.free 6
                have z7 : w7.cell? ⟨w.heap.size, 7, none⟩ = some (.int .i64 0) := hblk7.cell 7
                have f7 : w7.frozen? ⟨w.heap.size, 7, none⟩ = false := hblk7.free 7
                have z8 : w7.cell? ⟨w.heap.size, 8, none⟩ = some (.int .i64 0) := hblk7.cell 8
                have f8 : w7.frozen? ⟨w.heap.size, 8, none⟩ = false := hblk7.free 8
                have z9 : w7.cell? ⟨w.heap.size, 9, none⟩ = some (.int .i64 0) := hblk7.cell 9
                have f9 : w7.frozen? ⟨w.heap.size, 9, none⟩ = false := hblk7.free 9
                go_wp2_with fail
                exact bodyPost_ret (v := .tuple #[.agg #[.int .i64 0, .string { data := #[] }, .int .i64 0, .int .i64 0, .int .i64 0, .int .i64 0, .int .i64 0, .int .i64 0, .int .i64 0, .int .i64 0], .int .i64 c]) (by simp [results, Tryd.results15, go_sem, z0, z1, z2, z3, z4, z5, z6, z7, z8, z9]) rfl (ptp_no HF.out rfl ((((((((((hB7.setCell (p := ⟨w.heap.size, 0, none⟩) (Nat.le_refl _) _).setCell (p := ⟨w.heap.size, 1, none⟩) (Nat.le_refl _) _).setCell (p := ⟨w.heap.size, 2, none⟩) (Nat.le_refl _) _).setCell (p := ⟨w.heap.size, 3, none⟩) (Nat.le_refl _) _).setCell (p := ⟨w.heap.size, 4, none⟩) (Nat.le_refl _) _).setCell (p := ⟨w.heap.size, 5, none⟩) (Nat.le_refl _) _).setCell (p := ⟨w.heap.size, 6, none⟩) (Nat.le_refl _) _).setCell (p := ⟨w.heap.size, 7, none⟩) (Nat.le_refl _) _).setCell (p := ⟨w.heap.size, 8, none⟩) (Nat.le_refl _) _).setCell (p := ⟨w.heap.size, 9, none⟩) (Nat.le_refl _) _))
        · have HF : Hid (parT s = (zT, 4)) := Lib.hid (by rw [HPL.out]; exact line_no (Or.inr (by rw [List.head?_eq_getElem?, List.getElem?_eq_getElem (by omega)]; simpa using htr)))
          have hdt : ((l[0]'(by omega)) != [116, 114, 97, 105, 110]) = true := by simpa [trainW] using htr
          have hdt2 : ((l[0]'(by omega)) == [116, 114, 97, 105, 110]) = false := by simpa [trainW] using htr
          generalize l[0]'(by omega) = l0 at *
          clear htr
          have z0 : w2.cell? ⟨w.heap.size, 0, none⟩ = some (.int .i64 0) := hblk2.cell 0
          have f0 : w2.frozen? ⟨w.heap.size, 0, none⟩ = false := hblk2.free 0
          have z1 : w2.cell? ⟨w.heap.size, 1, none⟩ = some (.string { data := #[] }) := hblk2.cell 1
          have f1 : w2.frozen? ⟨w.heap.size, 1, none⟩ = false := hblk2.free 1
          have z2 : w2.cell? ⟨w.heap.size, 2, none⟩ = some (.int .i64 0) := hblk2.cell 2
          have f2 : w2.frozen? ⟨w.heap.size, 2, none⟩ = false := hblk2.free 2
          have z3 : w2.cell? ⟨w.heap.size, 3, none⟩ = some (.int .i64 0) := hblk2.cell 3
          have f3 : w2.frozen? ⟨w.heap.size, 3, none⟩ = false := hblk2.free 3
          have z4 : w2.cell? ⟨w.heap.size, 4, none⟩ = some (.int .i64 0) := hblk2.cell 4
          have f4 : w2.frozen? ⟨w.heap.size, 4, none⟩ = false := hblk2.free 4
          have z5 : w2.cell? ⟨w.heap.size, 5, none⟩ = some (.int .i64 0) := hblk2.cell 5
          have f5 : w2.frozen? ⟨w.heap.size, 5, none⟩ = false := hblk2.free 5
          have z6 : w2.cell? ⟨w.heap.size, 6, none⟩ = some (.int .i64 0) := hblk2.cell 6
          have f6 : w2.frozen? ⟨w.heap.size, 6, none⟩ = false := hblk2.free 6
          have z7 : w2.cell? ⟨w.heap.size, 7, none⟩ = some (.int .i64 0) := hblk2.cell 7
          have f7 : w2.frozen? ⟨w.heap.size, 7, none⟩ = false := hblk2.free 7
          have z8 : w2.cell? ⟨w.heap.size, 8, none⟩ = some (.int .i64 0) := hblk2.cell 8
          have f8 : w2.frozen? ⟨w.heap.size, 8, none⟩ = false := hblk2.free 8
          have z9 : w2.cell? ⟨w.heap.size, 9, none⟩ = some (.int .i64 0) := hblk2.cell 9
          have f9 : w2.frozen? ⟨w.heap.size, 9, none⟩ = false := hblk2.free 9
          go_wp2_with fail
          exact bodyPost_ret (v := .tuple #[.agg #[.int .i64 0, .string { data := #[] }, .int .i64 0, .int .i64 0, .int .i64 0, .int .i64 0, .int .i64 0, .int .i64 0, .int .i64 0, .int .i64 0], .int .i64 4]) (by simp [results, Tryd.results15, go_sem, z0, z1, z2, z3, z4, z5, z6, z7, z8, z9]) rfl (ptp_no HF.out rfl ((((((((((hB2.setCell (p := ⟨w.heap.size, 0, none⟩) (Nat.le_refl _) _).setCell (p := ⟨w.heap.size, 1, none⟩) (Nat.le_refl _) _).setCell (p := ⟨w.heap.size, 2, none⟩) (Nat.le_refl _) _).setCell (p := ⟨w.heap.size, 3, none⟩) (Nat.le_refl _) _).setCell (p := ⟨w.heap.size, 4, none⟩) (Nat.le_refl _) _).setCell (p := ⟨w.heap.size, 5, none⟩) (Nat.le_refl _) _).setCell (p := ⟨w.heap.size, 6, none⟩) (Nat.le_refl _) _).setCell (p := ⟨w.heap.size, 7, none⟩) (Nat.le_refl _) _).setCell (p := ⟨w.heap.size, 8, none⟩) (Nat.le_refl _) _).setCell (p := ⟨w.heap.size, 9, none⟩) (Nat.le_refl _) _))
      · have HF : Hid (parT s = (zT, 4)) := Lib.hid (by rw [HPL.out]; exact line_no (Or.inl h11))
        have hd11 : ((l.length : Int) != 11) = true := by simp; omega
        have z0 : w2.cell? ⟨w.heap.size, 0, none⟩ = some (.int .i64 0) := hblk2.cell 0
        have f0 : w2.frozen? ⟨w.heap.size, 0, none⟩ = false := hblk2.free 0
        have z1 : w2.cell? ⟨w.heap.size, 1, none⟩ = some (.string { data := #[] }) := hblk2.cell 1
        have f1 : w2.frozen? ⟨w.heap.size, 1, none⟩ = false := hblk2.free 1
        have z2 : w2.cell? ⟨w.heap.size, 2, none⟩ = some (.int .i64 0) := hblk2.cell 2
        have f2 : w2.frozen? ⟨w.heap.size, 2, none⟩ = false := hblk2.free 2
        have z3 : w2.cell? ⟨w.heap.size, 3, none⟩ = some (.int .i64 0) := hblk2.cell 3
        have f3 : w2.frozen? ⟨w.heap.size, 3, none⟩ = false := hblk2.free 3
        have z4 : w2.cell? ⟨w.heap.size, 4, none⟩ = some (.int .i64 0) := hblk2.cell 4
        have f4 : w2.frozen? ⟨w.heap.size, 4, none⟩ = false := hblk2.free 4
        have z5 : w2.cell? ⟨w.heap.size, 5, none⟩ = some (.int .i64 0) := hblk2.cell 5
        have f5 : w2.frozen? ⟨w.heap.size, 5, none⟩ = false := hblk2.free 5
        have z6 : w2.cell? ⟨w.heap.size, 6, none⟩ = some (.int .i64 0) := hblk2.cell 6
        have f6 : w2.frozen? ⟨w.heap.size, 6, none⟩ = false := hblk2.free 6
        have z7 : w2.cell? ⟨w.heap.size, 7, none⟩ = some (.int .i64 0) := hblk2.cell 7
        have f7 : w2.frozen? ⟨w.heap.size, 7, none⟩ = false := hblk2.free 7
        have z8 : w2.cell? ⟨w.heap.size, 8, none⟩ = some (.int .i64 0) := hblk2.cell 8
        have f8 : w2.frozen? ⟨w.heap.size, 8, none⟩ = false := hblk2.free 8
        have z9 : w2.cell? ⟨w.heap.size, 9, none⟩ = some (.int .i64 0) := hblk2.cell 9
        have f9 : w2.frozen? ⟨w.heap.size, 9, none⟩ = false := hblk2.free 9
        go_wp2_with fail
        exact bodyPost_ret (v := .tuple #[.agg #[.int .i64 0, .string { data := #[] }, .int .i64 0, .int .i64 0, .int .i64 0, .int .i64 0, .int .i64 0, .int .i64 0, .int .i64 0, .int .i64 0], .int .i64 4]) (by simp [results, Tryd.results15, go_sem, z0, z1, z2, z3, z4, z5, z6, z7, z8, z9]) rfl (ptp_no HF.out rfl ((((((((((hB2.setCell (p := ⟨w.heap.size, 0, none⟩) (Nat.le_refl _) _).setCell (p := ⟨w.heap.size, 1, none⟩) (Nat.le_refl _) _).setCell (p := ⟨w.heap.size, 2, none⟩) (Nat.le_refl _) _).setCell (p := ⟨w.heap.size, 3, none⟩) (Nat.le_refl _) _).setCell (p := ⟨w.heap.size, 4, none⟩) (Nat.le_refl _) _).setCell (p := ⟨w.heap.size, 5, none⟩) (Nat.le_refl _) _).setCell (p := ⟨w.heap.size, 6, none⟩) (Nat.le_refl _) _).setCell (p := ⟨w.heap.size, 7, none⟩) (Nat.le_refl _) _).setCell (p := ⟨w.heap.size, 8, none⟩) (Nat.le_refl _) _).setCell (p := ⟨w.heap.size, 9, none⟩) (Nat.le_refl _) _))
    · have HF := Lib.hid (par_many hli hm)
      have hd1 : ((m.length : Int) != 1) = true := by simp; omega
      clear hli hm
      go_enter Tryd.func15, Tryd.ntmps15
      go_wp2_with fail
      refine (HLC.out _).mono ?_
      rintro e w2 ⟨A, cap, rfl, hml, hr, hb2⟩
      have hblk2 := hblk.now hb2
      have hB2 := bel_then hba hba.size hb2
      have z0 : w2.cell? ⟨w.heap.size, 0, none⟩ = some (.int .i64 0) := hblk2.cell 0
      have f0 : w2.frozen? ⟨w.heap.size, 0, none⟩ = false := hblk2.free 0
      have z1 : w2.cell? ⟨w.heap.size, 1, none⟩ = some (.string { data := #[] }) := hblk2.cell 1
      have f1 : w2.frozen? ⟨w.heap.size, 1, none⟩ = false := hblk2.free 1
      have z2 : w2.cell? ⟨w.heap.size, 2, none⟩ = some (.int .i64 0) := hblk2.cell 2
      have f2 : w2.frozen? ⟨w.heap.size, 2, none⟩ = false := hblk2.free 2
      have z3 : w2.cell? ⟨w.heap.size, 3, none⟩ = some (.int .i64 0) := hblk2.cell 3
      have f3 : w2.frozen? ⟨w.heap.size, 3, none⟩ = false := hblk2.free 3
      have z4 : w2.cell? ⟨w.heap.size, 4, none⟩ = some (.int .i64 0) := hblk2.cell 4
      have f4 : w2.frozen? ⟨w.heap.size, 4, none⟩ = false := hblk2.free 4
      have z5 : w2.cell? ⟨w.heap.size, 5, none⟩ = some (.int .i64 0) := hblk2.cell 5
      have f5 : w2.frozen? ⟨w.heap.size, 5, none⟩ = false := hblk2.free 5
      have z6 : w2.cell? ⟨w.heap.size, 6, none⟩ = some (.int .i64 0) := hblk2.cell 6
      have f6 : w2.frozen? ⟨w.heap.size, 6, none⟩ = false := hblk2.free 6
      have z7 : w2.cell? ⟨w.heap.size, 7, none⟩ = some (.int .i64 0) := hblk2.cell 7
      have f7 : w2.frozen? ⟨w.heap.size, 7, none⟩ = false := hblk2.free 7
      have z8 : w2.cell? ⟨w.heap.size, 8, none⟩ = some (.int .i64 0) := hblk2.cell 8
      have f8 : w2.frozen? ⟨w.heap.size, 8, none⟩ = false := hblk2.free 8
      have z9 : w2.cell? ⟨w.heap.size, 9, none⟩ = some (.int .i64 0) := hblk2.cell 9
      have f9 : w2.frozen? ⟨w.heap.size, 9, none⟩ = false := hblk2.free 9
      go_wp2_with fail
      exact bodyPost_ret (v := .tuple #[.agg #[.int .i64 0, .string { data := #[] }, .int .i64 0, .int .i64 0, .int .i64 0, .int .i64 0, .int .i64 0, .int .i64 0, .int .i64 0, .int .i64 0], .int .i64 4]) (by simp [results, Tryd.results15, go_sem, z0, z1, z2, z3, z4, z5, z6, z7, z8, z9]) rfl (ptp_no HF.out rfl ((((((((((hB2.setCell (p := ⟨w.heap.size, 0, none⟩) (Nat.le_refl _) _).setCell (p := ⟨w.heap.size, 1, none⟩) (Nat.le_refl _) _).setCell (p := ⟨w.heap.size, 2, none⟩) (Nat.le_refl _) _).setCell (p := ⟨w.heap.size, 3, none⟩) (Nat.le_refl _) _).setCell (p := ⟨w.heap.size, 4, none⟩) (Nat.le_refl _) _).setCell (p := ⟨w.heap.size, 5, none⟩) (Nat.le_refl _) _).setCell (p := ⟨w.heap.size, 6, none⟩) (Nat.le_refl _) _).setCell (p := ⟨w.heap.size, 7, none⟩) (Nat.le_refl _) _).setCell (p := ⟨w.heap.size, 8, none⟩) (Nat.le_refl _) _).setCell (p := ⟨w.heap.size, 9, none⟩) (Nat.le_refl _) _))
  · have HF := Lib.hid (par_code hli hx)
    have hxb : (x != 0) = true := by simpa using hx
    clear hli hx
    go_enter Tryd.func15, Tryd.ntmps15
    go_wp2_with fail
    refine (HLC.out _).mono ?_
    rintro e w2 ⟨A, cap, rfl, hml, hr, hb2⟩
    have hblk2 := hblk.now hb2
    have hB2 := bel_then hba hba.size hb2
    have z0 : w2.cell? ⟨w.heap.size, 0, none⟩ = some (.int .i64 0) := hblk2.cell 0
    have f0 : w2.frozen? ⟨w.heap.size, 0, none⟩ = false := hblk2.free 0
    have z1 : w2.cell? ⟨w.heap.size, 1, none⟩ = some (.string { data := #[] }) := hblk2.cell 1
    have f1 : w2.frozen? ⟨w.heap.size, 1, none⟩ = false := hblk2.free 1
    have z2 : w2.cell? ⟨w.heap.size, 2, none⟩ = some (.int .i64 0) := hblk2.cell 2
    have f2 : w2.frozen? ⟨w.heap.size, 2, none⟩ = false := hblk2.free 2
    have z3 : w2.cell? ⟨w.heap.size, 3, none⟩ = some (.int .i64 0) := hblk2.cell 3
    have f3 : w2.frozen? ⟨w.heap.size, 3, none⟩ = false := hblk2.free 3
    have z4 : w2.cell? ⟨w.heap.size, 4, none⟩ = some (.int .i64 0) := hblk2.cell 4
    have f4 : w2.frozen? ⟨w.heap.size, 4, none⟩ = false := hblk2.free 4
    have z5 : w2.cell? ⟨w.heap.size, 5, none⟩ = some (.int .i64 0) := hblk2.cell 5
    have f5 : w2.frozen? ⟨w.heap.size, 5, none⟩ = false := hblk2.free 5
    have z6 : w2.cell? ⟨w.heap.size, 6, none⟩ = some (.int .i64 0) := hblk2.cell 6
    have f6 : w2.frozen? ⟨w.heap.size, 6, none⟩ = false := hblk2.free 6
    have z7 : w2.cell? ⟨w.heap.size, 7, none⟩ = some (.int .i64 0) := hblk2.cell 7
    have f7 : w2.frozen? ⟨w.heap.size, 7, none⟩ = false := hblk2.free 7
    have z8 : w2.cell? ⟨w.heap.size, 8, none⟩ = some (.int .i64 0) := hblk2.cell 8
    have f8 : w2.frozen? ⟨w.heap.size, 8, none⟩ = false := hblk2.free 8
    have z9 : w2.cell? ⟨w.heap.size, 9, none⟩ = some (.int .i64 0) := hblk2.cell 9
    have f9 : w2.frozen? ⟨w.heap.size, 9, none⟩ = false := hblk2.free 9
    go_wp2_with fail
    exact bodyPost_ret (v := .tuple #[.agg #[.int .i64 0, .string { data := #[] }, .int .i64 0, .int .i64 0, .int .i64 0, .int .i64 0, .int .i64 0, .int .i64 0, .int .i64 0, .int .i64 0], .int .i64 x]) (by simp [results, Tryd.results15, go_sem, z0, z1, z2, z3, z4, z5, z6, z7, z8, z9]) rfl (ptp_no HF.out rfl ((((((((((hB2.setCell (p := ⟨w.heap.size, 0, none⟩) (Nat.le_refl _) _).setCell (p := ⟨w.heap.size, 1, none⟩) (Nat.le_refl _) _).setCell (p := ⟨w.heap.size, 2, none⟩) (Nat.le_refl _) _).setCell (p := ⟨w.heap.size, 3, none⟩) (Nat.le_refl _) _).setCell (p := ⟨w.heap.size, 4, none⟩) (Nat.le_refl _) _).setCell (p := ⟨w.heap.size, 5, none⟩) (Nat.le_refl _) _).setCell (p := ⟨w.heap.size, 6, none⟩) (Nat.le_refl _) _).setCell (p := ⟨w.heap.size, 7, none⟩) (Nat.le_refl _) _).setCell (p := ⟨w.heap.size, 8, none⟩) (Nat.le_refl _) _).setCell (p := ⟨w.heap.size, 9, none⟩) (Nat.le_refl _) _))
end Go.Proofs.YtfmfadafpbnjoaaDoor
