/- The walks of Lines and its reference. -/
import Derived.Test.YtlblfblkallnhaaGreatDoorWdWalksE
namespace Go.Proofs.YtlblfblkallnhaaGreatDoor
set_option linter.unusedVariables false
set_option linter.unusedSimpArgs false
open Go.RowKit
attribute [local go_sem] bs_size bs_get bs_append bs_extract bs_toList
theorem cut_nl_no (s : List UInt8) (w : World) (E : Env w) (hs : s.length < 4294967281) (h : (10 : UInt8) ∉ s) :
    Calls Tryz.prog 38 #[.string (bs s), .string (bs [10])] w fun e w' => e = .returned (.tuple #[.string (bs s), .string (bs []), .bool false]) ∧ Below w.heap.size w w' := by
  have h2 := cut_nl s w E hs
  rw [cut_no h] at h2
  exact h2
theorem cut_nl_at (a b : List UInt8) (w : World) (E : Env w) (hs : (a ++ 10 :: b).length < 4294967281) (h : (10 : UInt8) ∉ a) :
    Calls Tryz.prog 38 #[.string (bs (a ++ 10 :: b)), .string (bs [10])] w fun e w' => e = .returned (.tuple #[.string (bs a), .string (bs b), .bool true]) ∧ Below w.heap.size w w' := by
  have h2 := cut_nl (a ++ 10 :: b) w E hs
  rw [cut_at h] at h2
  exact h2
/-- strings.Split: a new row as an element of a row of another type. -/
theorem split_sep (c : UInt8) (s : List UInt8) (w : World) (T : TypeId) (hT : 9 ≠ T) (E : Env w) (hs : s.length ≤ 1000000000) :
    Calls Tryz.prog 40 #[.string (bs s), .string (bs [c])] w fun e w' => ∃ A, e = .returned (.slice A (spl c s).length (spl c s).length) ∧ (cL cS).rd w' (Sep w' T w'.heap.size) [.slice A (spl c s).length (spl c s).length] (spl c s) ∧ Below w.heap.size w w' := by
  refine (split_any c s w E (by omega)).mono ?_
  rintro e w' ⟨h, rfl⟩
  refine ⟨_, h, ⟨_, _, rfl, ?_, rds_new w _ _ _ rfl (fun x hx => ?_) _ ⟨by simp, fun cs fr he => ?_⟩⟩, (Below.refl _ _).alloc (Nat.le_refl _) _⟩
  · have := spl_count (c := c) s
    unfold maxLen
    exact ⟨by omega, Nat.le_refl _⟩
  · have := spl_part hx
    unfold maxLen
    omega
  · rw [heap_alloc_new] at he
    simp only [Option.some.injEq, Obj.cells.injEq] at he
    exact hT he.2.1
/-- The result of Lines. -/
def LinesPost (w : World) (r : Lns × Nat × Int) (e : Ending) (w' : World) : Prop :=
  ∃ A cap, e = .returned (.tuple #[.slice A r.1.length cap, .int .i64 r.2.1, .int .i64 r.2.2]) ∧ r.1.length ≤ maxLen ∧ RdS (cL cS) w' (Lt w') A r.1 ∧ Below w.heap.size w w'
theorem linesPost_none {w w' : World} {r : Lns × Nat × Int} {n : Nat} {x : Int} (h : r = ([], n, x)) (hb : Below w.heap.size w w') {e : Ending} (he : e = .returned (.tuple #[.slice none 0 0, .int .i64 n, .int .i64 x])) : LinesPost w r e w' := by
  subst h
  exact ⟨none, 0, he, Nat.zero_le _, RdS.nil _ _ _ _, hb⟩
def strL : Value → Nat
  | .string b => b.size
  | _ => 0
theorem strL_bs (l : List UInt8) : strL (.string (bs l)) = l.length := bs_size l
theorem own1 {u v : Value} (h : v.oneCell' = true) : ∀ x ∈ [v], x.oneCell' = true := by
  intro x hx
  simp at hx
  subst hx
  exact h
set_option maxRecDepth 100000 in
set_option maxHeartbeats 8000000 in
theorem lines_any (s : List UInt8) (w : World) (E : Env w) (hs : s.length ≤ maxLen) :
    Calls Tryz.prog 17 #[.string (bs s)] w (LinesPost w (linesF s)) := by
  unfold maxLen at hs
  by_cases hlong : 32768 < s.length
  · have HF : Hid (linesF s = ([], 0, 2)) := Lib.hid (by unfold linesF; rw [if_pos hlong])
    go_enter Tryz.func17, Tryz.ntmps17
    go_wp2_with fail
    go_ret3
    exact linesPost_none HF.out (Below.refl _ _) rfl
  · have HF : Hid (linesF s = scan [] [] [] s) := Lib.hid (by unfold linesF; rw [if_neg hlong])
    have hl : s.length ≤ 32768 := by omega
    clear hlong
    obtain ⟨i0, hi, hz0, hz1, hz2⟩ := info_parts infoStrs
    go_enter Tryz.func17, Tryz.ntmps17
    go_wp2_with fail
    go_loopw [0, 5, 6] (fun sv v n wr => ∃ (out : Lns) (rest : List UInt8) (B : Nat), sv = .string (bs rest) ∧ out.length + rest.length ≤ 32768 ∧ n = .int .i64 (out.length + 1 : Nat) ∧ OwnR (cL cS) wr w.heap.size 46 v out B ∧ Below w.heap.size w wr ∧ Hid (scan out [] [] rest = linesF s)) (fun sv _ _ _ => strL sv)
    case atStart => exact ⟨[], s, 0, rfl, by simp; omega, rfl, OwnR.nil _ _ _ _ (Nat.zero_le _), Below.refl _ _, Lib.hid HF.out.symm⟩
    case round =>
      obtain ⟨out, rest, B, rfl, hlen, rfl, hown, hbw, HK⟩ := hrel
      have hsz := hbw.size
      have E1 := E.now hbw
      have hB := hown
      obtain ⟨_, _, _, hBle⟩ := hB
      rcases at_or 10 rest with h10 | ⟨a, b, hab, h10⟩
      · by_cases hem : rest = []
        · subst hem
          have H2 : Hid (linesF s = (out, 0, 0)) := Lib.hid (by rw [← HK.out]; rfl)
          obtain ⟨A', cap', rfl, hsh, hr2⟩ := hown.reads
          go_wp2_with fail
          go_ret3
          exact ⟨A', cap', by rw [H2.out]; rfl, by rw [H2.out]; exact hsh, by rw [H2.out]; exact hr2, hbw⟩
        · have H2 : Hid (linesF s = ([], out.length + 1, 4)) := Lib.hid (by rw [← HK.out]; exact scan_end out rest h10 hem)
          have hem1 : (rest == []) = false := by simp [hem]
          have hem2 : rest.isEmpty = false := by simp [hem]
          have H10 := Lib.hid h10
          clear hem h10
          go_wp2_with fail
          refine (cut_nl_no rest _ E1 (by omega) H10.out).mono ?_
          rintro e w2 ⟨rfl, hb2⟩
          go_wp2_with fail
          go_ret3
          exact linesPost_none H2.out (bel_then hbw hsz hb2) rfl
      · subst hab
        have hem1 : ((a ++ 10 :: b) == []) = false := by simp
        have hem2 : (a ++ 10 :: b).isEmpty = false := by simp
        have hlen2 : out.length + a.length + b.length + 1 ≤ 32768 := by simp at hlen; omega
        have HL : Hid ((a ++ 10 :: b).length = a.length + b.length + 1) := Lib.hid (by simp; omega)
        have H10 := Lib.hid h10
        clear h10 hlen
        have HC := Lib.hid (cut_nl_at a b wr E1 (by rw [HL.out]; omega) H10.out)
        have HS := Lib.hid (scan_cut out a b H10.out)
        have HM : Hid (strL (.string (bs b)) < strL (.string (bs (a ++ 10 :: b)))) := Lib.hid (by rw [strL_bs, strL_bs, HL.out]; omega)
        generalize hr : a ++ 10 :: b = r at *
        clear hr
        by_cases hln : lnB 0 a = true
        · have H2 : Hid (scan (out ++ [spl 32 a]) [] [] b = linesF s) := Lib.hid (by rw [← HK.out, HS.out, if_pos hln])
          have HI : Hid (∀ W : World, Calls Tryz.prog 39 #[.string (bs a)] W fun e w' => e = .returned (.bool true) ∧ Below W.heap.size W w') := Lib.hid fun W => by
            have := isLine_any a W (by unfold maxLen; omega)
            rw [hln] at this
            exact this
          clear hln HS HK
          go_wp2_with fail
          refine HC.out.mono ?_
          rintro e w2 ⟨rfl, hb2⟩
          have hB2 := bel_then hbw hsz hb2
          go_wp2_with fail
          refine (HI.out _).mono ?_
          rintro e w3 ⟨rfl, hb3⟩
          have hB3 := bel_then hB2 hB2.size hb3
          have hsp := split_sep 32 a w3 46 (by decide) (E.now hB3) (by omega)
          have hn2 : (spl 32 a).length ≤ maxLen := by have := spl_count (c := 32) a; unfold maxLen; omega
          generalize spl 32 a = ws at hsp H2 hn2
          go_wp2_with fail
          refine hsp.mono ?_
          rintro e w4 ⟨A4, rfl, hrd4, hb4⟩
          have hB4 := bel_then hB3 hB3.size hb4
          have hown4 := ((((hown.now hb2).now hb3).now hb4).raise (B' := w4.heap.size) (by have := hb2.size; have := hb3.size; have := hb4.size; omega) (Nat.le_refl _))
          have hsz4 := hB4.size
          clear hown hsp
          go_wp2_with (at_builtin; refine wpList_append_r (c := cL cS) _ rfl _ _ 43 rfl w.heap.size 46 i0 (.slice none 0 0) 24 Tryz.underlying43 hi hz0 hz1 hz2 rfl (by decide) _ out _ rfl hown4 [_] ws hrd4 (own1 (u := .nilIface) rfl) _ rfl (by omega) (by omega) (by omega) ?_; intro v' w5 hown5 hf5 hs5)
          go_roundw
          case rel => exact ⟨out ++ [ws], b, _, rfl, by simp; omega, by simp, hown5, hf5.keeps (Nat.le_refl _) (by omega) hB4, H2⟩
          case measure => exact HM.out
        · have H2 : Hid (linesF s = ([], out.length + 1, 4)) := Lib.hid (by rw [← HK.out, HS.out, if_neg hln])
          have HI : Hid (∀ W : World, Calls Tryz.prog 39 #[.string (bs a)] W fun e w' => e = .returned (.bool false) ∧ Below W.heap.size W w') := Lib.hid fun W => by
            have := isLine_any a W (by unfold maxLen; omega)
            have hln' : lnB 0 a = false := by simpa using hln
            rw [hln'] at this
            exact this
          clear hln HS HK
          go_wp2_with fail
          refine HC.out.mono ?_
          rintro e w2 ⟨rfl, hb2⟩
          have hB2 := bel_then hbw hsz hb2
          go_wp2_with fail
          refine (HI.out _).mono ?_
          rintro e w3 ⟨rfl, hb3⟩
          have hB3 := bel_then hB2 hB2.size hb3
          go_wp2_with fail
          go_ret3
          exact linesPost_none H2.out hB3 rfl
end Go.Proofs.YtlblfblkallnhaaGreatDoor
