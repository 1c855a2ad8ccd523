/- The walk of the reference's Lines. -/
import Derived.Test.YtlblfblkallnhaaGreatDoorWdWalksF
namespace Go.Proofs.YtlblfblkallnhaaGreatDoor
set_option linter.unusedVariables false
set_option linter.unusedSimpArgs false
open Go.RowKit
attribute [local go_sem] bs_size bs_get bs_append bs_extract bs_toList
/-- What the reference's loop keeps: the text is read up to place k, the word so far began at place f. -/
def SR (s : List UInt8) (out : Lns) (line : List (List UInt8)) (f k : Nat) : Prop := f ≤ k ∧ k ≤ s.length ∧ scan out line ((s.take k).drop f) (s.drop k) = linesF s
theorem SR_char {s : List UInt8} {out : Lns} {line : List (List UInt8)} {f k : Nat} (h : SR s out line f k) (hk : k < s.length) (h1 : s[k] ≠ 32) (h2 : s[k] ≠ 10) : SR s out line f (k + 1) := by
  obtain ⟨g1, g2, g3⟩ := h
  refine ⟨by omega, by omega, ?_⟩
  rw [List.drop_eq_getElem_cons hk, scan, if_neg (by simp [h1, h2])] at g3
  rw [drop_take_snoc g1 hk]
  exact g3
theorem SR_bad {s : List UInt8} {out : Lns} {line : List (List UInt8)} {f k : Nat} (h : SR s out line f k) (hk : k < s.length) (h1 : s[k] = 32 ∨ s[k] = 10) (hw : wordB ((s.take k).drop f) = false) : linesF s = ([], out.length + 1, 4) := by
  obtain ⟨g1, g2, g3⟩ := h
  rw [List.drop_eq_getElem_cons hk, scan, if_pos h1, if_neg (by simp [hw])] at g3
  exact g3.symm
theorem SR_word {s : List UInt8} {out : Lns} {line : List (List UInt8)} {f k : Nat} (h : SR s out line f k) (hk : k < s.length) (h1 : s[k] = 32) (hw : wordB ((s.take k).drop f) = true) : SR s out (line ++ [(s.take k).drop f]) (k + 1) (k + 1) := by
  obtain ⟨g1, g2, g3⟩ := h
  refine ⟨Nat.le_refl _, by omega, ?_⟩
  rw [List.drop_eq_getElem_cons hk, scan, if_pos (Or.inl h1), if_pos hw, if_neg (by rw [h1]; decide)] at g3
  have e : (s.take (k + 1)).drop (k + 1) = [] := List.drop_of_length_le (by rw [List.length_take]; omega)
  rw [e]
  exact g3
theorem SR_line {s : List UInt8} {out : Lns} {line : List (List UInt8)} {f k : Nat} (h : SR s out line f k) (hk : k < s.length) (h1 : s[k] = 10) (hw : wordB ((s.take k).drop f) = true) : SR s (out ++ [line ++ [(s.take k).drop f]]) [] (k + 1) (k + 1) := by
  obtain ⟨g1, g2, g3⟩ := h
  refine ⟨Nat.le_refl _, by omega, ?_⟩
  rw [List.drop_eq_getElem_cons hk, scan, if_pos (Or.inr h1), if_pos hw, if_pos h1] at g3
  have e : (s.take (k + 1)).drop (k + 1) = [] := List.drop_of_length_le (by rw [List.length_take]; omega)
  rw [e]
  exact g3
theorem SR_end {s : List UInt8} {out : Lns} {line : List (List UInt8)} {f k : Nat} (h : SR s out line f k) (hk : ¬ k < s.length) : linesF s = if f < s.length ∨ 0 < line.length then ([], out.length + 1, 4) else (out, 0, 0) := by
  obtain ⟨g1, g2, g3⟩ := h
  obtain rfl : k = s.length := by omega
  rw [List.drop_of_length_le (Nat.le_refl _), List.take_length, scan] at g3
  rw [← g3]
  by_cases hf : f < s.length
  · have : ¬ s.drop f = [] := fun e => by have := congrArg List.length e; simp at this; omega
    rw [if_pos (Or.inl hf), if_neg (fun e => this e.1)]
  · have e : s.drop f = [] := List.drop_of_length_le (by omega)
    by_cases hl : line = []
    · rw [if_pos ⟨e, hl⟩, if_neg (by simp [hf, hl])]
    · rw [if_neg (fun e => hl e.2), if_pos (Or.inr (List.length_pos_iff.2 hl))]
theorem rword_b (l : List UInt8) (b : Bool) (w : World) (hs : l.length ≤ maxLen) (h : wordB l = b) : Calls Tryz.prog 46 #[.string (bs l)] w fun e w' => e = .returned (.bool b) ∧ w = w' := h ▸ rword_any l w hs
set_option maxRecDepth 100000 in
set_option maxHeartbeats 8000000 in
theorem rlines_any (s : List UInt8) (w : World) (hs : s.length ≤ maxLen) :
    Calls Tryz.prog 27 #[.string (bs s)] w (LinesPost w (linesF s)) := by
  unfold maxLen at hs
  by_cases hlong : 32768 < s.length
  · have HF : Hid (linesF s = ([], 0, 2)) := Lib.hid (by unfold linesF; rw [if_pos hlong])
    go_enter Tryz.func27, Tryz.ntmps27
    go_wp2_with fail
    go_ret3
    exact linesPost_none HF.out (Below.refl _ _) rfl
  · have HS : Hid (SR s [] [] 0 0) := Lib.hid ⟨Nat.le_refl _, Nat.zero_le _, by unfold linesF; rw [if_neg hlong]; rfl⟩
    have hl : s.length ≤ 32768 := by omega
    clear hlong
    obtain ⟨i0, hi, hz0, hz1, hz2⟩ := info_parts infoStr
    obtain ⟨j0, hj, hy0, hy1, hy2⟩ := info_parts infoStrs
    go_enter Tryz.func27, Tryz.ntmps27
    go_wp2_with fail
    go_loopw [5, 6, 7, 8] (fun vo vl fr i wr => ∃ (f k : Nat) (out : Lns) (line : List (List UInt8)) (B base : Nat), fr = .int .i64 f ∧ i = .int .i64 k ∧ out.length ≤ k ∧ line.length ≤ k ∧ w.heap.size ≤ base ∧ B ≤ base ∧ base ≤ wr.heap.size ∧ OwnR (cL cS) wr w.heap.size 46 vo out B ∧ OwnR cS wr base 9 vl line 0 ∧ Below w.heap.size w wr ∧ Hid (SR s out line f k)) (fun _ _ _ i _ => s.length - (intOf i).toNat)
    case atStart => exact ⟨0, 0, [], [], 0, w.heap.size, rfl, rfl, Nat.le_refl _, Nat.le_refl _, Nat.le_refl _, Nat.zero_le _, Nat.le_refl _, OwnR.nil _ _ _ _ (Nat.zero_le _), OwnR.nil _ _ _ _ (Nat.zero_le _), Below.refl _ _, HS⟩
    case round =>
      obtain ⟨f, k, out, line, B, base, rfl, rfl, hol, hll, hb1, hb2, hb3, hout, hline, hbw, HK⟩ := hrel
      have hsz := hbw.size
      obtain ⟨Ao, co, rfl⟩ := hout.form
      have hfk := HK.out.1
      have hkl := HK.out.2.1
      by_cases hlt : k < s.length
      · have hpl : ((s.take k).drop f).length ≤ maxLen := by rw [List.length_drop, List.length_take]; unfold maxLen; omega
        by_cases hc : s[k] = 32 ∨ s[k] = 10
        · cases hw : wordB ((s.take k).drop f) with
          | false =>
            have H2 := Lib.hid (SR_bad HK.out hlt hc hw)
            have HW := Lib.hid hw
            clear hw
            rcases hc with hc | hc
            · have c1 : ((s[k].toNat : Int) != 32) = false := by rw [hc]; decide
              clear hc
              go_wp2_with (go_at_call 46; refine (rword_b _ _ _ hpl HW.out).mono ?_; rintro e w2 ⟨rfl, rfl⟩)
              go_ret3
              exact linesPost_none H2.out hbw rfl
            · have c1 : ((s[k].toNat : Int) != 32) = true := by rw [hc]; decide
              have c2 : ((s[k].toNat : Int) != 10) = false := by rw [hc]; decide
              clear hc
              go_wp2_with (go_at_call 46; refine (rword_b _ _ _ hpl HW.out).mono ?_; rintro e w2 ⟨rfl, rfl⟩)
              go_ret3
              exact linesPost_none H2.out hbw rfl
          | true =>
            have HW := Lib.hid hw
            rcases hc with hc | hc
            · have H2 := Lib.hid (SR_word HK.out hlt hc hw)
              have c1 : ((s[k].toNat : Int) != 32) = false := by rw [hc]; decide
              have c3 : ((s[k].toNat : Int) == 10) = false := by rw [hc]; decide
              clear hc hw
              go_wp2_with fail
              refine (rword_b _ _ _ hpl HW.out).mono ?_
              rintro e w2 ⟨rfl, rfl⟩
              go_wp2_with (at_builtin; refine wpList_append_r (c := cS) _ rfl _ _ 46 rfl base 9 i0 (.string ByteArray.empty) 16 Tryz.underlying46 hi hz0 hz1 hz2 rfl (by decide) _ line 0 rfl hline [_] ((s.take k).drop f) ⟨rfl, hpl⟩ (own1 (u := .nilIface) rfl) _ rfl (by omega) (by omega) (by omega) ?_; intro v' w5 hline5 hf5 hs5)
              go_roundw
              case rel => exact ⟨k + 1, k + 1, out, line ++ [(s.take k).drop f], B, base, by go_num, by go_num, by omega, by simp; omega, hb1, hb2, by omega, hout.frm hf5 (by decide) hb2, hline5, hf5.keeps hb1 hsz hbw, H2⟩
              case measure => simp [intOf]; omega
            · have H2 := Lib.hid (SR_line HK.out hlt hc hw)
              have c1 : ((s[k].toNat : Int) != 32) = true := by rw [hc]; decide
              have c2 : ((s[k].toNat : Int) != 10) = false := by rw [hc]; decide
              have c3 : ((s[k].toNat : Int) == 10) = true := by rw [hc]; decide
              clear hc hw
              go_wp2_with fail
              refine (rword_b _ _ _ hpl HW.out).mono ?_
              rintro e w2 ⟨rfl, rfl⟩
              go_upto_region 14 with (at_builtin; refine wpList_append_r (c := cS) _ rfl _ _ 46 rfl base 9 i0 (.string ByteArray.empty) 16 Tryz.underlying46 hi hz0 hz1 hz2 rfl (by decide) _ line 0 rfl hline [_] ((s.take k).drop f) ⟨rfl, hpl⟩ (own1 (u := .nilIface) rfl) _ rfl (by omega) (by omega) (by omega) ?_; intro v' w5 hline5 hf5 hs5)
              have hout5 := hout.frm hf5 (by decide) hb2
              have hbw5 := hf5.keeps hb1 hsz hbw
              have hsz5 := hbw5.size
              obtain ⟨Al, cl, rfl, hrd⟩ := hline5.inner (T := 46) (by decide)
              have hout6 := hout5.raise (B' := w5.heap.size) (by omega) (Nat.le_refl _)
              generalize line ++ [(s.take k).drop f] = ln at *
              go_wp2_with (at_builtin; refine wpList_append_r (c := cL cS) _ rfl _ _ 43 rfl w.heap.size 46 j0 (.slice none 0 0) 24 Tryz.underlying43 hj hy0 hy1 hy2 rfl (by decide) _ out _ rfl hout6 [_] ln hrd (own1 (u := .nilIface) rfl) _ rfl (by omega) (by omega) (by omega) ?_; intro v6 w6 hout7 hf6 hs6)
              go_roundw
              case rel => exact ⟨k + 1, k + 1, out ++ [ln], [], w5.heap.size, w6.heap.size, by go_num, by go_num, by simp; omega, Nat.zero_le _, by omega, by omega, Nat.le_refl _, hout7, OwnR.nil _ _ _ _ (Nat.zero_le _), hf6.keeps (Nat.le_refl _) hsz5 hbw5, H2⟩
              case measure => simp [intOf]; omega
        · have H2 := Lib.hid (SR_char HK.out hlt (fun e => hc (Or.inl e)) (fun e => hc (Or.inr e)))
          have c1 : ((s[k].toNat : Int) != 32) = true := by
            simp
            intro h
            exact hc (Or.inl (UInt8.toNat_inj.1 (by rw [show (32 : UInt8).toNat = 32 from rfl]; omega)))
          have c2 : ((s[k].toNat : Int) != 10) = true := by
            simp
            intro h
            exact hc (Or.inr (UInt8.toNat_inj.1 (by rw [show (10 : UInt8).toNat = 10 from rfl]; omega)))
          clear hc
          go_wp2_with fail
          go_roundw
          case rel => exact ⟨f, k + 1, out, line, B, base, rfl, by go_num, by omega, by omega, hb1, hb2, hb3, hout, hline, hbw, H2⟩
          case measure => simp [intOf]; omega
      · have HE := Lib.hid (SR_end HK.out hlt)
        by_cases hg : f < s.length ∨ 0 < line.length
        · have H2 : Hid (linesF s = ([], out.length + 1, 4)) := Lib.hid (by rw [HE.out, if_pos hg])
          obtain ⟨Al, cl, rfl⟩ := hline.form
          go_wp2_with fail
          all_goals first
            | (exfalso; omega)
            | (go_ret3; exact linesPost_none H2.out hbw rfl)
        · have H2 : Hid (linesF s = (out, 0, 0)) := Lib.hid (by rw [HE.out, if_neg hg])
          obtain ⟨Al, cl, rfl⟩ := hline.form
          obtain ⟨A', cap', he, hsh, hr2⟩ := hout.reads
          have HE2 := Lib.hid he
          clear he
          go_wp2_with fail
          all_goals first
            | (exfalso; omega)
            | (go_ret3; exact ⟨A', cap', by rw [H2.out]; simp only; rw [← HE2.out]; rfl, by rw [H2.out]; exact hsh, by rw [H2.out]; exact hr2, hbw⟩)
end Go.Proofs.YtlblfblkallnhaaGreatDoor
