/- The walk of Parse's reference. -/
import Derived.Test.YtnckainiphlndaaDoorJnParse
namespace Go.Proofs.YtnckainiphlndaaDoor
set_option linter.unusedVariables false
set_option linter.unusedSimpArgs false
open Go.RowKit
attribute [local go_sem] bs_size bs_get bs_append bs_extract bs_toList
/-- What the reference's loop keeps: the text is read up to place k, the line so far began at place f. -/
def RJ (s : List UInt8) (acc : List Ent) (f k : Nat) : Prop := f ≤ k ∧ k ≤ s.length ∧ scanJ acc ((s.take k).drop f) (s.drop k) = scanJ [] [] s
theorem drop_take_snoc {s : List UInt8} {f k : Nat} (hf : f ≤ k) (hk : k < s.length) : (s.take (k + 1)).drop f = (s.take k).drop f ++ [s[k]] := by
  rw [take_snoc s k hk, List.drop_append_of_le_length (by rw [List.length_take]; omega)]
theorem RJ_char {s : List UInt8} {acc : List Ent} {f k : Nat} (h : RJ s acc f k) (hk : k < s.length) (h2 : s[k] ≠ 10) : RJ s acc f (k + 1) := by
  obtain ⟨g1, g2, g3⟩ := h
  refine ⟨by omega, by omega, ?_⟩
  rw [List.drop_eq_getElem_cons hk, scanJ, if_neg h2] at g3
  rw [drop_take_snoc g1 hk]
  exact g3
theorem RJ_bad {s : List UInt8} {acc : List Ent} {f k : Nat} (h : RJ s acc f k) (hk : k < s.length) (h1 : s[k] = 10) (hw : entF ((s.take k).drop f) = none) : scanJ [] [] s = ([], acc.length + 1, 4) := by
  obtain ⟨g1, g2, g3⟩ := h
  rw [List.drop_eq_getElem_cons hk, scanJ, if_pos h1, hw] at g3
  exact g3.symm
theorem RJ_line {s : List UInt8} {acc : List Ent} {f k : Nat} {x : Ent} (h : RJ s acc f k) (hk : k < s.length) (h1 : s[k] = 10) (hw : entF ((s.take k).drop f) = some x) : RJ s (acc ++ [x]) (k + 1) (k + 1) := by
  obtain ⟨g1, g2, g3⟩ := h
  refine ⟨Nat.le_refl _, by omega, ?_⟩
  rw [List.drop_eq_getElem_cons hk, scanJ, if_pos h1, hw] at g3
  have e : (s.take (k + 1)).drop (k + 1) = [] := List.drop_of_length_le (by rw [List.length_take]; omega)
  rw [e]
  exact g3
theorem RJ_end {s : List UInt8} {acc : List Ent} {f k : Nat} (h : RJ s acc f k) (hk : ¬ k < s.length) : scanJ [] [] s = if f < s.length then ([], acc.length + 1, 4) else (acc, 0, 0) := by
  obtain ⟨g1, g2, g3⟩ := h
  obtain rfl : k = s.length := by omega
  rw [List.drop_of_length_le (Nat.le_refl _), List.take_length, scanJ] at g3
  rw [← g3]
  by_cases hf : f < s.length
  · have : ¬ s.drop f = [] := fun e => by have := congrArg List.length e; simp at this; omega
    rw [if_pos hf, if_neg this]
  · have e : s.drop f = [] := List.drop_of_length_le (by omega)
    rw [if_neg hf, if_pos e]
set_option maxRecDepth 100000 in
set_option maxHeartbeats 8000000 in
theorem rparse_any (s : List UInt8) (w : World) (E : Env w) (hs : s.length ≤ 90000) :
    Calls Tryd.prog 21 #[.string (bs s)] w (PPost w (parF s)) := by
  obtain ⟨i0, hi, hz0, hz1, hz2⟩ := info_parts infoE
  go_enter Tryd.func21, Tryd.ntmps21
  go_wp2_with fail
  go_loopw [5, 6, 7] (fun v fr i wr => ∃ (f k : Nat) (acc : List Ent), fr = .int .i64 f ∧ i = .int .i64 k ∧ acc.length ≤ k ∧ OwnR cE wr w.heap.size 37 v acc 0 ∧ Below w.heap.size w wr ∧ Hid (RJ s acc f k)) (fun _ _ i _ => s.length - (intOf i).toNat)
  case atStart => exact ⟨0, 0, [], rfl, rfl, Nat.le_refl _, OwnR.nil _ _ _ _ (Nat.zero_le _), Below.refl _ _, Lib.hid ⟨Nat.le_refl _, Nat.zero_le _, by simp⟩⟩
  case round =>
    obtain ⟨f, k, acc, rfl, rfl, hak, hown, hbw, HK⟩ := hrel
    have hsz := hbw.size
    have E1 := E.now hbw
    have hfk := HK.out.1
    have hkl := HK.out.2.1
    have hal : acc.length ≤ 90000 := by omega
    by_cases hlt : k < s.length
    · have hpl : ((s.take k).drop f).length ≤ 1000000 := by rw [List.length_drop, List.length_take]; omega
      have hki : (k : Int) < (s.length : Int) := by omega
      by_cases hc : s[k] = 10
      · have c1 : ((s[k].toNat : Int) != 10) = false := by rw [hc]; decide
        cases hen : entF ((s.take k).drop f) with
        | none =>
          have H2 := Lib.hid (par_stop (RJ_bad HK.out hlt hc hen))
          have HR := Lib.hid fun W => rread_any ((s.take k).drop f) W hpl
          have HE := Lib.hid hen
          obtain ⟨A', cap', rfl⟩ := hown.form
          clear hen hc
          go_wp2_with fail
          refine (HR.out _).mono ?_
          intro e w2 hp
          obtain ⟨rfl, hb2⟩ := epost_none HE.out hp
          clear hp
          go_wp2_with fail
          go_ret3
          exact ppost_none H2.out ((bel_then hbw hsz hb2).alloc (Nat.le_trans hsz hb2.size) _) (by simp)
        | some x =>
          have H2 := Lib.hid (RJ_line HK.out hlt hc hen)
          have HR := Lib.hid fun W => rread_any ((s.take k).drop f) W hpl
          have hxo := okX_entO (line_entF hen).2
          have HE := Lib.hid hen
          clear hen hc
          go_wp2_with fail
          refine (HR.out _).mono ?_
          intro e w2 hp
          obtain ⟨rfl, hb2⟩ := epost_some HE.out hp
          clear hp
          have hB2 := bel_then hbw hsz hb2
          have hown3 := ((hown.now hb2).alloc (.cells #[.int .i64 x.time, .string (bs x.text), .int .u64 (x.sum : Int)] 37))
          have hB3 := hB2.alloc hB2.size (.cells #[.int .i64 x.time, .string (bs x.text), .int .u64 (x.sum : Int)] 37)
          have hsz3 := hB3.size
          clear hown
          go_wp2_with (at_builtin; go_loud (refine wpList_append_r (c := cE) _ rfl _ _ 22 rfl w.heap.size 37 i0 _ 32 Tryd.underlying22 hi hz0 hz1 hz2 rfl (by decide) _ acc 0 rfl hown3 [_, _, _] x ⟨rfl, hxo⟩ (fun u hu => cellsE_cell [x] u (by rw [cellsE_one]; exact hu)) _ (by rw [World.size_alloc]; rfl) (by omega) (by omega) (by omega) ?_); intro v' w5 hown5 hf5 hs5)
          go_roundw
          case rel => exact ⟨k + 1, k + 1, acc ++ [x], by go_num, by go_num, by simp; omega, hown5, hf5.keeps (Nat.le_refl _) hsz3 hB3, H2⟩
          case measure => simp [intOf]; omega
      · have c1 : ((s[k].toNat : Int) != 10) = true := by
          rw [bne_iff_ne]; intro h; exact hc (UInt8.toNat_inj.1 (by simpa using (by exact_mod_cast h : s[k].toNat = 10)))
        have H2 := Lib.hid (RJ_char HK.out hlt hc)
        clear hc
        go_wp2_with fail
        go_roundw
        case rel => exact ⟨f, k + 1, acc, rfl, by go_num, by omega, hown, hbw, H2⟩
        case measure => simp [intOf]; omega
    · have hend := RJ_end HK.out hlt
      by_cases hf : f < s.length
      · rw [if_pos hf] at hend
        have H2 := Lib.hid (par_stop hend)
        have hfi : (f : Int) < (s.length : Int) := by omega
        obtain ⟨A', cap', rfl⟩ := hown.form
        clear hend
        go_wp2_with fail
        go_ret3
        exact ppost_none H2.out hbw (by simp)
      · rw [if_neg hf] at hend
        have hfi : ¬ (f : Int) < (s.length : Int) := by omega
        obtain ⟨A', cap', rfl, hcap, hr2⟩ := hown.reads2
        have hcm := hcap.1
        clear hown
        rcases verF_cases acc with hv | ⟨hv1, hv2⟩
        · have HP := Lib.hid (par_good hend hv)
          have HV := Lib.hid hv
          clear hv hend
          go_wp2_with fail
          refine (rverifyD HV.out A' cap' _ E1 hr2 (by unfold maxLen; omega) hcap.2).mono ?_
          rintro e w2 ⟨rfl, hb2⟩
          go_wp2_with fail
          go_ret3
          exact ⟨A', cap', by rw [HP.out]; rfl, by rw [HP.out]; exact hcap, by rw [HP.out]; exact hr2.now hb2, bel_then hbw hsz hb2⟩
        · obtain ⟨m, hm⟩ : ∃ m : Nat, verF acc = m := ⟨(verF acc).toNat, by omega⟩
          have HP := Lib.hid (par_corrupt hend hm)
          have HV := Lib.hid hm
          have hml : m ≤ 90000 := by omega
          clear hm hend hv1 hv2
          go_wp2_with fail
          refine (rverifyD HV.out A' cap' _ E1 hr2 (by unfold maxLen; omega) hcap.2).mono ?_
          rintro e w2 ⟨rfl, hb2⟩
          have hm1 : (0 : Int) ≤ (m : Int) := by omega
          go_wp2_with fail
          go_ret3
          exact ppost_none HP.out (bel_then hbw hsz hb2) (by simp)
end Go.Proofs.YtnckainiphlndaaDoor
