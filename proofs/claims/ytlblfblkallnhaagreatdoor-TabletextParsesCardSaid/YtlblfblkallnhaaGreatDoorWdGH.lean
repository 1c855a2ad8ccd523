/- The walk of the reference's Lines. The walks of Join, its reference and small. Lines once more: the result's length is within its capacity. -/
import Derived.Test.YtlblfblkallnhaaGreatDoorWdEF
import Derived.Test.YtlblfblkallnhaaGreatDoorBld
namespace Go.Proofs.YtlblfblkallnhaaGreatDoor
set_option linter.unusedVariables false
set_option linter.unusedSimpArgs false
open Go.RowKit
attribute [local go_sem] bs_size bs_get bs_append bs_extract bs_toList
/-- What the reference's loop keeps: the text is read up to place k, the word so far began at place f. -/
def SR (s : List UInt8) (out : Lns) (line : List (List UInt8)) (f k : Nat) : Prop := f ≤ k ∧ k ≤ s.length ∧ scan out line ((s.take k).drop f) (s.drop k) = linesF s
theorem SR_char {s : List UInt8} {out : Lns} {line : List (List UInt8)} {f k : Nat} (h : SR s out line f k) (hk : k < s.length) (h1 : s[k] ≠ 32) (h2 : s[k] ≠ 10) : SR s out line f (k + 1) := by
  obtain ⟨g1, g2, g3⟩ := h
  refine ⟨by omega, by omega, ?_⟩
  rw [List.drop_eq_getElem_cons hk, scan, if_neg (by simp [h1, h2])] at g3
  rw [drop_take_snoc g1 hk]
  exact g3
theorem SR_bad {s : List UInt8} {out : Lns} {line : List (List UInt8)} {f k : Nat} (h : SR s out line f k) (hk : k < s.length) (h1 : s[k] = 32 ∨ s[k] = 10) (hw : wordB ((s.take k).drop f) = false) : linesF s = ([], out.length + 1, 4) := by
  obtain ⟨g1, g2, g3⟩ := h
  rw [List.drop_eq_getElem_cons hk, scan, if_pos h1, if_neg (by simp [hw])] at g3
  exact g3.symm
theorem SR_word {s : List UInt8} {out : Lns} {line : List (List UInt8)} {f k : Nat} (h : SR s out line f k) (hk : k < s.length) (h1 : s[k] = 32) (hw : wordB ((s.take k).drop f) = true) : SR s out (line ++ [(s.take k).drop f]) (k + 1) (k + 1) := by
  obtain ⟨g1, g2, g3⟩ := h
  refine ⟨Nat.le_refl _, by omega, ?_⟩
  rw [List.drop_eq_getElem_cons hk, scan, if_pos (Or.inl h1), if_pos hw, if_neg (by rw [h1]; decide)] at g3
  have e : (s.take (k + 1)).drop (k + 1) = [] := List.drop_of_length_le (by rw [List.length_take]; omega)
  rw [e]
  exact g3
theorem SR_line {s : List UInt8} {out : Lns} {line : List (List UInt8)} {f k : Nat} (h : SR s out line f k) (hk : k < s.length) (h1 : s[k] = 10) (hw : wordB ((s.take k).drop f) = true) : SR s (out ++ [line ++ [(s.take k).drop f]]) [] (k + 1) (k + 1) := by
  obtain ⟨g1, g2, g3⟩ := h
  refine ⟨Nat.le_refl _, by omega, ?_⟩
  rw [List.drop_eq_getElem_cons hk, scan, if_pos (Or.inr h1), if_pos hw, if_pos h1] at g3
  have e : (s.take (k + 1)).drop (k + 1) = [] := List.drop_of_length_le (by rw [List.length_take]; omega)
  rw [e]
  exact g3
theorem SR_end {s : List UInt8} {out : Lns} {line : List (List UInt8)} {f k : Nat} (h : SR s out line f k) (hk : ¬ k < s.length) : linesF s = if f < s.length ∨ 0 < line.length then ([], out.length + 1, 4) else (out, 0, 0) := by
  obtain ⟨g1, g2, g3⟩ := h
  obtain rfl : k = s.length := by omega
  rw [List.drop_of_length_le (Nat.le_refl _), List.take_length, scan] at g3
  rw [← g3]
  by_cases hf : f < s.length
  · have : ¬ s.drop f = [] := fun e => by have := congrArg List.length e; simp at this; omega
    rw [if_pos (Or.inl hf), if_neg (fun e => this e.1)]
  · have e : s.drop f = [] := List.drop_of_length_le (by omega)
    by_cases hl : line = []
    · rw [if_pos ⟨e, hl⟩, if_neg (by simp [hf, hl])]
    · rw [if_neg (fun e => hl e.2), if_pos (Or.inr (List.length_pos_iff.2 hl))]
theorem rword_b (l : List UInt8) (b : Bool) (w : World) (hs : l.length ≤ maxLen) (h : wordB l = b) : Calls Tryz.prog 46 #[.string (bs l)] w fun e w' => e = .returned (.bool b) ∧ w = w' := h ▸ rword_any l w hs
set_option maxRecDepth 100000 in
set_option maxHeartbeats 8000000 in
theorem rlines_any (s : List UInt8) (w : World) (hs : s.length ≤ maxLen) :
    Calls Tryz.prog 27 #[.string (bs s)] w (LinesPost w (linesF s)) := by
  unfold maxLen at hs
  by_cases hlong : 32768 < s.length
  · have HF : Hid (linesF s = ([], 0, 2)) := Lib.hid (by unfold linesF; rw [if_pos hlong])
    go_enter Tryz.func27, Tryz.ntmps27
    go_wp2_with fail
    go_ret3
    exact linesPost_none HF.out (Below.refl _ _) rfl
  · have HS : Hid (SR s [] [] 0 0) := Lib.hid ⟨Nat.le_refl _, Nat.zero_le _, by unfold linesF; rw [if_neg hlong]; rfl⟩
    have hl : s.length ≤ 32768 := by omega
    clear hlong
    obtain ⟨i0, hi, hz0, hz1, hz2⟩ := info_parts infoStr
    obtain ⟨j0, hj, hy0, hy1, hy2⟩ := info_parts infoStrs
    go_enter Tryz.func27, Tryz.ntmps27
    go_wp2_with fail
    go_loopw [5, 6, 7, 8] (fun vo vl fr i wr => ∃ (f k : Nat) (out : Lns) (line : List (List UInt8)) (B base : Nat), fr = .int .i64 f ∧ i = .int .i64 k ∧ out.length ≤ k ∧ line.length ≤ k ∧ w.heap.size ≤ base ∧ B ≤ base ∧ base ≤ wr.heap.size ∧ OwnR (cL cS) wr w.heap.size 46 vo out B ∧ OwnR cS wr base 9 vl line 0 ∧ Below w.heap.size w wr ∧ Hid (SR s out line f k)) (fun _ _ _ i _ => s.length - (intOf i).toNat)
    case atStart => exact ⟨0, 0, [], [], 0, w.heap.size, rfl, rfl, Nat.le_refl _, Nat.le_refl _, Nat.le_refl _, Nat.zero_le _, Nat.le_refl _, OwnR.nil _ _ _ _ (Nat.zero_le _), OwnR.nil _ _ _ _ (Nat.zero_le _), Below.refl _ _, HS⟩
    case round =>
      obtain ⟨f, k, out, line, B, base, rfl, rfl, hol, hll, hb1, hb2, hb3, hout, hline, hbw, HK⟩ := hrel
      have hsz := hbw.size
      obtain ⟨Ao, co, rfl⟩ := hout.form
      have hfk := HK.out.1
      have hkl := HK.out.2.1
      by_cases hlt : k < s.length
      · have hpl : ((s.take k).drop f).length ≤ maxLen := by rw [List.length_drop, List.length_take]; unfold maxLen; omega
        by_cases hc : s[k] = 32 ∨ s[k] = 10
        · cases hw : wordB ((s.take k).drop f) with
          | false =>
            have H2 := Lib.hid (SR_bad HK.out hlt hc hw)
            have HW := Lib.hid hw
            clear hw
            rcases hc with hc | hc
            · have c1 : ((s[k].toNat : Int) != 32) = false := by rw [hc]; decide
              clear hc
              go_wp2_with (go_at_call 46; refine (rword_b _ _ _ hpl HW.out).mono ?_; rintro e w2 ⟨rfl, rfl⟩)
              go_ret3
              exact linesPost_none H2.out hbw rfl
            · have c1 : ((s[k].toNat : Int) != 32) = true := by rw [hc]; decide
              have c2 : ((s[k].toNat : Int) != 10) = false := by rw [hc]; decide
              clear hc
              go_wp2_with (go_at_call 46; refine (rword_b _ _ _ hpl HW.out).mono ?_; rintro e w2 ⟨rfl, rfl⟩)
              go_ret3
              exact linesPost_none H2.out hbw rfl
          | true =>
            have HW := Lib.hid hw
            rcases hc with hc | hc
            · have H2 := Lib.hid (SR_word HK.out hlt hc hw)
              have c1 : ((s[k].toNat : Int) != 32) = false := by rw [hc]; decide
              have c3 : ((s[k].toNat : Int) == 10) = false := by rw [hc]; decide
              clear hc hw
              go_wp2_with fail
              refine (rword_b _ _ _ hpl HW.out).mono ?_
              rintro e w2 ⟨rfl, rfl⟩
              go_wp2_with (at_builtin; refine wpList_append_r (c := cS) _ rfl _ _ 46 rfl base 9 i0 (.string ByteArray.empty) 16 Tryz.underlying46 hi hz0 hz1 hz2 rfl (by decide) _ line 0 rfl hline [_] ((s.take k).drop f) ⟨rfl, hpl⟩ (own1 (u := .nilIface) rfl) _ rfl (by omega) (by omega) (by omega) ?_; intro v' w5 hline5 hf5 hs5)
              go_roundw
              case rel => exact ⟨k + 1, k + 1, out, line ++ [(s.take k).drop f], B, base, by go_num, by go_num, by omega, by simp; omega, hb1, hb2, by omega, hout.frm hf5 (by decide) hb2, hline5, hf5.keeps hb1 hsz hbw, H2⟩
              case measure => simp [intOf]; omega
            · have H2 := Lib.hid (SR_line HK.out hlt hc hw)
              have c1 : ((s[k].toNat : Int) != 32) = true := by rw [hc]; decide
              have c2 : ((s[k].toNat : Int) != 10) = false := by rw [hc]; decide
              have c3 : ((s[k].toNat : Int) == 10) = true := by rw [hc]; decide
              clear hc hw
              go_wp2_with fail
              refine (rword_b _ _ _ hpl HW.out).mono ?_
              rintro e w2 ⟨rfl, rfl⟩
              go_upto_region 14 with (at_builtin; refine wpList_append_r (c := cS) _ rfl _ _ 46 rfl base 9 i0 (.string ByteArray.empty) 16 Tryz.underlying46 hi hz0 hz1 hz2 rfl (by decide) _ line 0 rfl hline [_] ((s.take k).drop f) ⟨rfl, hpl⟩ (own1 (u := .nilIface) rfl) _ rfl (by omega) (by omega) (by omega) ?_; intro v' w5 hline5 hf5 hs5)
              have hout5 := hout.frm hf5 (by decide) hb2
              have hbw5 := hf5.keeps hb1 hsz hbw
              have hsz5 := hbw5.size
              obtain ⟨Al, cl, rfl, hrd⟩ := hline5.inner (T := 46) (by decide)
              have hout6 := hout5.raise (B' := w5.heap.size) (by omega) (Nat.le_refl _)
              generalize line ++ [(s.take k).drop f] = ln at *
              go_wp2_with (at_builtin; refine wpList_append_r (c := cL cS) _ rfl _ _ 43 rfl w.heap.size 46 j0 (.slice none 0 0) 24 Tryz.underlying43 hj hy0 hy1 hy2 rfl (by decide) _ out _ rfl hout6 [_] ln hrd (own1 (u := .nilIface) rfl) _ rfl (by omega) (by omega) (by omega) ?_; intro v6 w6 hout7 hf6 hs6)
              go_roundw
              case rel => exact ⟨k + 1, k + 1, out ++ [ln], [], w5.heap.size, w6.heap.size, by go_num, by go_num, by simp; omega, Nat.zero_le _, by omega, by omega, Nat.le_refl _, hout7, OwnR.nil _ _ _ _ (Nat.zero_le _), hf6.keeps (Nat.le_refl _) hsz5 hbw5, H2⟩
              case measure => simp [intOf]; omega
        · have H2 := Lib.hid (SR_char HK.out hlt (fun e => hc (Or.inl e)) (fun e => hc (Or.inr e)))
          have c1 : ((s[k].toNat : Int) != 32) = true := by
            simp
            intro h
            exact hc (Or.inl (UInt8.toNat_inj.1 (by rw [show (32 : UInt8).toNat = 32 from rfl]; omega)))
          have c2 : ((s[k].toNat : Int) != 10) = true := by
            simp
            intro h
            exact hc (Or.inr (UInt8.toNat_inj.1 (by rw [show (10 : UInt8).toNat = 10 from rfl]; omega)))
          clear hc
          go_wp2_with fail
          go_roundw
          case rel => exact ⟨f, k + 1, out, line, B, base, rfl, by go_num, by omega, by omega, hb1, hb2, hb3, hout, hline, hbw, H2⟩
          case measure => simp [intOf]; omega
      · have HE := Lib.hid (SR_end HK.out hlt)
        by_cases hg : f < s.length ∨ 0 < line.length
        · have H2 : Hid (linesF s = ([], out.length + 1, 4)) := Lib.hid (by rw [HE.out, if_pos hg])
          obtain ⟨Al, cl, rfl⟩ := hline.form
          go_wp2_with fail
          all_goals first
            | (exfalso; omega)
            | (go_ret3; exact linesPost_none H2.out hbw rfl)
        · have H2 : Hid (linesF s = (out, 0, 0)) := Lib.hid (by rw [HE.out, if_neg hg])
          obtain ⟨Al, cl, rfl⟩ := hline.form
          obtain ⟨A', cap', he, hsh, hr2⟩ := hout.reads
          have HE2 := Lib.hid he
          clear he
          go_wp2_with fail
          all_goals first
            | (exfalso; omega)
            | (go_ret3; exact ⟨A', cap', by rw [H2.out]; simp only; rw [← HE2.out]; rfl, by rw [H2.out]; exact hsh, by rw [H2.out]; exact hr2, hbw⟩)
end Go.Proofs.YtlblfblkallnhaaGreatDoor
namespace Go.Proofs.YtlblfblkallnhaaGreatDoor
set_option linter.unusedVariables false
set_option linter.unusedSimpArgs false
open Go.RowKit
attribute [local go_sem] bs_size bs_get bs_append bs_extract bs_toList
/-! ### Sizes of texts -/
def wsz (ws : List (List UInt8)) : Nat := (ws.map fun w => w.length + 1).sum
def tsz (ls : Lns) : Nat := (ls.map wsz).sum
def cnt (ls : Lns) : Nat := (ls.map List.length).sum
theorem wsz_snoc (ws : List (List UInt8)) (w : List UInt8) : wsz (ws ++ [w]) = wsz ws + (w.length + 1) := by simp [wsz]
theorem tsz_snoc (ls : Lns) (l : List (List UInt8)) : tsz (ls ++ [l]) = tsz ls + wsz l := by simp [tsz]
theorem cnt_snoc (ls : Lns) (l : List (List UInt8)) : cnt (ls ++ [l]) = cnt ls + l.length := by simp [cnt]
theorem wsz_le : ∀ (ws : List (List UInt8)), (∀ w ∈ ws, wordB w = true) → wsz ws ≤ 65 * ws.length
  | [], _ => by simp [wsz]
  | w :: r, h => by
    have ih := wsz_le r (fun v hv => h v (by simp [hv]))
    have := wordB_len (h w (by simp))
    simp only [wsz, List.map_cons, List.sum_cons, List.length_cons] at ih ⊢
    omega
theorem cnt_take_le : ∀ (ls : Lns) (k : Nat), cnt (ls.take k) ≤ cnt ls
  | [], k => by simp
  | l :: r, 0 => by simp [cnt]
  | l :: r, k + 1 => by
    have ih := cnt_take_le r k
    simp only [cnt, List.take_succ_cons, List.map_cons, List.sum_cons] at ih ⊢
    omega
theorem cnt_at {ls : Lns} {k : Nat} (h : k < ls.length) : cnt (ls.take k) + ls[k].length ≤ cnt ls := by
  have h1 := cnt_take_le ls (k + 1)
  rw [List.take_succ_eq_append_getElem h, cnt_snoc] at h1
  exact h1
theorem tsz_le : ∀ (ls : Lns), ls.all goodL = true → tsz ls ≤ 65 * cnt ls
  | [], _ => by simp [tsz]
  | l :: r, h => by
    simp only [List.all_cons, Bool.and_eq_true] at h
    have ih := tsz_le r h.2
    have := wsz_le l (goodL_iff.1 h.1).2
    simp only [tsz, cnt, List.map_cons, List.sum_cons] at ih ⊢
    omega
theorem tsz_split (ls : Lns) (k : Nat) : tsz ls = tsz (ls.take k) + tsz (ls.drop k) := by
  conv => lhs; rw [← List.take_append_drop k ls]
  unfold tsz
  rw [List.map_append, List.sum_append]
theorem lens_wsz (ws : List (List UInt8)) : wsz ws = Lib.lens ws + ws.length := by
  induction ws with
  | nil => rfl
  | cons w r ih =>
    simp only [wsz, Lib.lens, List.map_cons, List.sum_cons, List.length_cons] at ih ⊢
    omega
theorem lineT_len {l : List (List UInt8)} (h : l ≠ []) : (lineT l).length = wsz l := by
  cases l with
  | nil => exact absurd rfl h
  | cons w r =>
    rw [lineT, List.length_append, Lib.join_length, lens_wsz]
    simp
    omega
theorem textOf_len : ∀ (ls : Lns), ls.all goodL = true → (textOf ls).length = tsz ls
  | [], _ => rfl
  | l :: r, h => by
    simp only [List.all_cons, Bool.and_eq_true] at h
    have ih := textOf_len r h.2
    have := lineT_len (goodL_iff.1 h.1).1
    simp only [textOf, tsz, List.map_cons, List.flatten_cons, List.length_append, List.sum_cons] at ih ⊢
    omega
theorem textOf_snoc (ls : Lns) (l : List (List UInt8)) : textOf (ls ++ [l]) = textOf ls ++ (Lib.join l [32] ++ [10]) := by simp [textOf, lineT]
theorem joinF_bad {ls : Lns} {k : Nat} (h : k < ls.length) (hb : goodL ls[k] = false) : joinF ls = ([], 1) := by
  unfold joinF
  rw [if_neg]
  intro h2
  rw [List.all_eq_true.1 h2 ls[k] (List.getElem_mem h)] at hb
  cases hb
theorem good_at {ls : Lns} {k : Nat} (h : k < ls.length) (h1 : (ls.take k).all goodL = true) (h2 : goodL ls[k] = true) : (ls.take (k + 1)).all goodL = true := by
  rw [List.take_succ_eq_append_getElem h, List.all_append, h1, List.all_cons, h2]
  rfl
theorem goodL_word {l : List (List UInt8)} {m : Nat} (h : m < l.length) (hw : wordB l[m] = false) : goodL l = false := by
  rw [Bool.eq_false_iff]
  intro h2
  rw [(goodL_iff.1 h2).2 l[m] (List.getElem_mem h)] at hw
  cases hw
theorem goodL_all {l : List (List UInt8)} (h0 : 0 < l.length) (h : (l.take l.length).all wordB = true) : goodL l = true := by
  rw [List.take_length] at h
  exact goodL_iff.2 ⟨List.length_pos_iff.1 h0, List.all_eq_true.1 h⟩
theorem allW_snoc {l : List (List UInt8)} {m : Nat} (h : m < l.length) (h1 : (l.take m).all wordB = true) (h2 : wordB l[m] = true) : (l.take (m + 1)).all wordB = true := by
  rw [List.take_succ_eq_append_getElem h, List.all_append, h1, List.all_cons, h2]
  rfl
theorem wsz_take_le {l : List (List UInt8)} {m : Nat} (h : (l.take m).all wordB = true) (hm : m ≤ l.length) : wsz (l.take m) ≤ 65 * m := by
  have := wsz_le (l.take m) (List.all_eq_true.1 h)
  rw [List.length_take] at this
  rw [Nat.min_eq_left hm] at this
  exact this
/-- A word as the program asks for it. -/
theorem ask_word (u : List UInt8) (hu : u.length ≤ maxLen) : (wordB u = true → lnB 0 u = true ∧ Lib.contains u [32] = false) ∧ (wordB u = false → lnB 0 u = true → Lib.contains u [32] = true) := by
  rw [word_line]
  cases lnB 0 u <;> cases Lib.contains u [32] <;> simp
theorem isLine_b (l : List UInt8) (b : Bool) (w : World) (hs : l.length ≤ maxLen) (h : lnB 0 l = b) : Calls Tryz.prog 39 #[.string (bs l)] w fun e w' => e = .returned (.bool b) ∧ Below w.heap.size w w' := h ▸ isLine_any l w hs
theorem contains_b (l : List UInt8) (b : Bool) (w : World) (h : Lib.contains l [32] = b) : Calls Tryz.prog 41 #[.string (bs l), .string (bs [32])] w fun e w' => e = .returned (.bool b) ∧ w = w' := h ▸ contains_space l w
set_option maxRecDepth 100000 in
set_option maxHeartbeats 8000000 in
theorem join_prog (ls : Lns) (A : Option Addr) (cap : Nat) (w : World) (hr : RdS (cL cS) w (Lt w) A ls) (hl : ls.length ≤ 100000000) (hcn : cnt ls ≤ 100000000) :
    Calls Tryz.prog 18 #[.slice A ls.length cap] w fun e w' => e = .returned (.tuple #[.string (bs (joinF ls).1), .int .i64 (joinF ls).2]) ∧ Below w.heap.size w w' := by
  obtain ⟨p, off, hA, hca⟩ := hr.pick rfl
  have HA := Lib.hid hA
  have HCA := Lib.hid hca
  have HR := Lib.hid hr
  clear hA hca hr
  go_enter Tryz.func18, Tryz.ntmps18
  go_wp2_with fail
  go_loopw [4, 14] (fun sz i wr => ∃ k : Nat, k ≤ ls.length ∧ i = .int .i64 k ∧ sz = .int .i64 (tsz (ls.take k) : Nat) ∧ Hid ((ls.take k).all goodL = true) ∧ Below w.heap.size w wr) (fun _ i _ => ls.length - (intOf i).toNat)
  case atStart => exact ⟨0, Nat.zero_le _, rfl, rfl, Lib.hid (by simp), Below.refl _ _⟩
  case round =>
    obtain ⟨k, hk, rfl, rfl, HG, hbw⟩ := hrel
    have hsz := hbw.size
    have htk := tsz_le _ HG.out
    have hck := cnt_take_le ls k
    by_cases hlt : k < ls.length
    · have hcat := cnt_at hlt
      obtain ⟨rfl, _⟩ := HA.out (by omega)
      obtain ⟨u, hu, x0⟩ := HCA.out k _ (List.getElem?_eq_getElem hlt)
      obtain ⟨A1, c1, rfl, hx, hr1⟩ := cLS_cell hu
      have x1 : wr.cell? ⟨p, off + k, none⟩ = some (.slice A1 ls[k].length c1) := (hbw.cell (cell_lt x0)).trans x0
      obtain ⟨p1, off1, hA1, hc1⟩ := hr1.pick rfl
      have HA1 := Lib.hid hA1
      have HC1 := Lib.hid hc1
      clear hu hr1 x0 hA1 hc1
      have hki : (k : Int) < (ls.length : Int) := by omega
      have HN : Hid (goodL ls[k] = true → (ls.take (k + 1)).all goodL = true ∧ tsz (ls.take (k + 1)) = tsz (ls.take k) + wsz ls[k]) := Lib.hid fun h => ⟨good_at hlt HG.out h, by rw [List.take_succ_eq_append_getElem hlt, tsz_snoc]⟩
      have HB : Hid (goodL ls[k] = false → joinF ls = ([], 1)) := Lib.hid fun h => joinF_bad hlt h
      generalize ls[k] = l at *
      generalize tsz (ls.take k) = T at *
      by_cases h0 : l.length = 0
      · have hl0 : l = [] := List.eq_nil_of_length_eq_zero h0
        have HF := Lib.hid (HB.out (by rw [hl0]; rfl))
        have h00 : ((l.length : Int) == 0) = true := by simp [h0]
        clear h0 hl0
        go_wp2_with fail
        go_ret2
        exact ⟨by rw [HF.out]; rfl, hbw⟩
      · have h00 : ((l.length : Int) == 0) = false := by rw [beq_eq_false_iff_ne]; omega
        have hpos : 0 < l.length := by omega
        clear h0
        obtain ⟨rfl, _⟩ := HA1.out hpos
        obtain ⟨wo, rfl⟩ : ∃ wo : World, wo = wr := ⟨_, rfl⟩
        go_wp2_with fail
        go_loopw [4, 23] (fun sz i wr => ∃ m : Nat, m ≤ l.length ∧ i = .int .i64 m ∧ sz = .int .i64 (T + wsz (l.take m) : Nat) ∧ Hid ((l.take m).all wordB = true) ∧ Below w.heap.size w wr) (fun _ i _ => l.length - (intOf i).toNat)
        case atStart => exact ⟨0, Nat.zero_le _, rfl, rfl, Lib.hid (by simp), hbw⟩
        case round =>
          obtain ⟨m, hm, rfl, rfl, HW, hbr⟩ := hrel
          have hwm := wsz_take_le HW.out hm
          have hszr := hbr.size
          by_cases hmt : m < l.length
          · obtain ⟨u, hu, y0⟩ := HC1.out m _ (List.getElem?_eq_getElem hmt)
            obtain ⟨rfl, hul⟩ := cS_cell hu
            have y1 : wr.cell? ⟨p1, off1 + m, none⟩ = some (.string (bs l[m])) := (hbr.cell (cell_lt y0)).trans y0
            clear hu y0
            have hmi : (m : Int) < (l.length : Int) := by omega
            have HAK := Lib.hid (ask_word l[m] hul)
            have HS : Hid (wordB l[m] = true → (l.take (m + 1)).all wordB = true ∧ wsz (l.take (m + 1)) = wsz (l.take m) + (l[m].length + 1) ∧ l[m].length ≤ 64) := Lib.hid fun h => ⟨allW_snoc hmt HW.out h, by rw [List.take_succ_eq_append_getElem hmt, wsz_snoc], (wordB_len h).2⟩
            have HF : Hid (wordB l[m] = false → joinF ls = ([], 1)) := Lib.hid fun h => HB.out (goodL_word hmt h)
            generalize l[m] = u at *
            generalize wsz (l.take m) = Z at *
            cases hwu : wordB u with
            | true =>
              obtain ⟨g1, g2⟩ := HAK.out.1 hwu
              obtain ⟨s1, s2, s3⟩ := HS.out hwu
              have G1 := Lib.hid g1
              have G2 := Lib.hid g2
              have S1 := Lib.hid s1
              have S2 := Lib.hid s2
              clear g1 g2 s1 s2 hwu
              go_wp2_with fail
              refine (isLine_b u _ _ hul G1.out).mono ?_
              rintro e w2 ⟨rfl, hb2⟩
              go_wp2_with fail
              refine (contains_b u _ _ G2.out).mono ?_
              rintro e w3 ⟨rfl, rfl⟩
              go_wp2_with fail
              go_roundw
              case rel => exact ⟨m + 1, by omega, by go_num, by rw [S2.out]; congr 1; omega, S1, bel_then hbr hszr hb2⟩
              case measure => simp [intOf]; omega
            | false =>
              have HFF := Lib.hid (HF.out hwu)
              cases hln : lnB 0 u with
              | false =>
                have G1 := Lib.hid hln
                clear hwu hln
                go_wp2_with fail
                refine (isLine_b u _ _ hul G1.out).mono ?_
                rintro e w2 ⟨rfl, hb2⟩
                go_wp2_with fail
                go_ret2
                exact ⟨by rw [HFF.out]; rfl, bel_then hbr hszr hb2⟩
              | true =>
                have G1 := Lib.hid hln
                have G2 := Lib.hid (HAK.out.2 hwu hln)
                clear hwu hln
                go_wp2_with fail
                refine (isLine_b u _ _ hul G1.out).mono ?_
                rintro e w2 ⟨rfl, hb2⟩
                go_wp2_with fail
                refine (contains_b u _ _ G2.out).mono ?_
                rintro e w3 ⟨rfl, rfl⟩
                go_wp2_with fail
                go_ret2
                exact ⟨by rw [HFF.out]; rfl, bel_then hbr hszr hb2⟩
          · obtain rfl : m = l.length := by omega
            obtain ⟨n1, n2⟩ := HN.out (goodL_all hpos HW.out)
            rw [List.take_length]
            have N1 := Lib.hid n1
            have N2 := Lib.hid n2
            clear n1 n2
            go_wp2_with fail
            go_roundw
            case rel => exact ⟨k + 1, by omega, by go_num, by rw [N2.out], N1, hbr⟩
            case measure => simp [intOf]; omega
    · obtain rfl : k = ls.length := by omega
      have hall := HG.out
      rw [List.take_length] at hall htk ⊢
      have HT := Lib.hid (textOf_len ls hall)
      by_cases hbig : 32768 < tsz ls
      · have HF : Hid (joinF ls = ([], 2)) := Lib.hid (by unfold joinF; rw [if_pos hall, if_pos (by rw [textOf_len ls hall]; exact hbig)])
        clear hall
        go_wp2_with fail
        go_ret2
        exact ⟨by rw [HF.out]; rfl, hbw⟩
      · have HF : Hid (joinF ls = (textOf ls, 0)) := Lib.hid (by unfold joinF; rw [if_pos hall, if_neg (by rw [textOf_len ls hall]; exact hbig)])
        have hsm : tsz ls ≤ 32768 := by omega
        have HALL := Lib.hid hall
        clear hall hbig
        have hfr := Bld.fresh wr
        generalize hw0 : wr.alloc (.cells #[.pointer none, .slice none 0 0] 75) = w0 at hfr
        have hb0 : Below wr.heap.size wr w0 := hw0 ▸ (Below.refl _ _).alloc (Nat.le_refl _) _
        have hz0 : wr.heap.size < w0.heap.size := by rw [← hw0]; simp
        go_upto_region 18 with (fail)
        clear hw0
        go_wp2_with fail
        generalize wr.heap.size = B at *
        have hB0 : Below w.heap.size w w0 := hbw.trans (hb0.mono hsz)
        go_loopw [45] (fun i wq => ∃ k : Nat, k ≤ ls.length ∧ i = .int .i64 k ∧ Bld B B (textOf (ls.take k)) wq ∧ Below w.heap.size w wq ∧ B ≤ wq.heap.size) (fun i _ => ls.length - (intOf i).toNat)
        case atStart => exact ⟨0, Nat.zero_le _, rfl, hfr, hB0, by omega⟩
        case round =>
          obtain ⟨k, hk, rfl, hbl, hbq, hBq⟩ := hrel
          have hszq := hbq.size
          by_cases hlt : k < ls.length
          · obtain ⟨rfl, _⟩ := HA.out (by omega)
            obtain ⟨u, hu, x0⟩ := HCA.out k _ (List.getElem?_eq_getElem hlt)
            obtain ⟨A1, c1, rfl, ⟨hx, hxc⟩, hr1⟩ := cLS_cell2 hu
            have x1 : wr.cell? ⟨p, off + k, none⟩ = some (.slice A1 ls[k].length c1) := (hbq.cell (cell_lt x0)).trans x0
            have hr2 := hr1.now hbq
            clear hu hr1 x0
            have hki : (k : Int) < (ls.length : Int) := by omega
            have HTS : Hid (textOf (ls.take (k + 1)) = textOf (ls.take k) ++ (Lib.join ls[k] [32] ++ [10])) := Lib.hid (by rw [List.take_succ_eq_append_getElem hlt, textOf_snoc])
            have hpl : (textOf (ls.take k)).length ≤ 32768 := by
              have h1 : (ls.take k).all goodL = true := List.all_eq_true.2 fun x hx => List.all_eq_true.1 HALL.out x (List.mem_of_mem_take hx)
              have h2 := textOf_len _ h1
              have h3 : tsz (ls.take k) ≤ tsz ls := by
                have := tsz_split ls k
                omega
              omega
            have hgl : (Lib.join ls[k] [32]).length ≤ 32768 ∧ ls[k].length ≤ 32768 := by
              have h1 := List.all_eq_true.1 HALL.out ls[k] (List.getElem_mem hlt)
              have h2 := lineT_len (goodL_iff.1 h1).1
              have h3 : wsz ls[k] ≤ tsz ls := by
                have := tsz_split ls k
                rw [List.drop_eq_getElem_cons hlt] at this
                simp only [tsz, List.map_cons, List.sum_cons] at this
                simp only [tsz]
                omega
              rw [lineT, List.length_append] at h2
              have h4 := lens_wsz ls[k]
              omega
            obtain ⟨hg1, hg2⟩ := hgl
            generalize ls[k] = l at *
            generalize textOf (ls.take k) = pre at *
            have HJ := Lib.hid fun (W : World) (h : RdS cS W (Lt W) A1 l) => join_any l [32] A1 c1 W h (by omega) hxc (by omega)
            go_wp2_with fail
            refine (HJ.out _ hr2).mono ?_
            rintro e w2 ⟨rfl, hb2⟩
            have hbl2 := bld_below hbl hb2
            have hz2 := hb2.size
            generalize Lib.join l [32] = jn at *
            go_wp2_with fail
            refine (writeString_any B B pre jn w2 hbl2 (by omega) (by omega)).mono ?_
            rintro e w3 ⟨rfl, hbl3, hb3, _⟩
            have hz3 := hb3.size
            go_wp2_with fail
            refine (writeByte_any B B (pre ++ jn) 10 _ w3 rfl hbl3 (by simp; omega) (by omega)).mono ?_
            rintro e w4 ⟨rfl, hbl4, hb4, _⟩
            have hz4 := hb4.size
            go_wp2_with fail
            go_roundw
            case rel => exact ⟨k + 1, by omega, by go_num, by rw [HTS.out, ← List.append_assoc]; exact hbl4, ((bel_then hbq hszq hb2).trans (hb3.mono hsz)).trans (hb4.mono hsz), by omega⟩
            case measure => simp [intOf]; omega
          · obtain rfl : k = ls.length := by omega
            rw [List.take_length] at hbl
            go_wp2_with fail
            refine (builderString_any B B _ _ hbl hBq).mono ?_
            rintro e w2 ⟨rfl, hb2⟩
            go_wp2_with fail
            go_ret2
            exact ⟨by rw [HF.out]; rfl, hbq.trans (hb2.mono hsz)⟩
/-! ### The reference's Join -/
/-! ### The guard -/
end Go.Proofs.YtlblfblkallnhaaGreatDoor
namespace Go.Proofs.YtlblfblkallnhaaGreatDoor
set_option linter.unusedVariables false
set_option linter.unusedSimpArgs false
open Go.RowKit
attribute [local go_sem] bs_size bs_get bs_append bs_extract bs_toList
end Go.Proofs.YtlblfblkallnhaaGreatDoor
