/- The laws of chapter 05, walked: WordsInts, WordsFormats, WordsNames, WordsLines, WordsJoins, WordsRoundTrip, WordsLists. -/
import Derived.Test.YtfedhgkpgihmoaaDoorWdAlive
namespace Go.Proofs.YtfedhgkpgihmoaaDoor
set_option linter.unusedVariables false
set_option linter.unusedSimpArgs false
open Go.RowKit
attribute [local go_sem] bs_size bs_get bs_append bs_extract bs_toList
theorem rintC {s : List UInt8} {n x : Int} (h : intF s = (n, x)) (w : World) (hs : s.length ≤ maxLen) : Calls Tryd.prog 19 #[.string (bs s)] w fun e w' => e = .returned (.tuple #[.int .i64 n, .int .i64 x]) ∧ Below w.heap.size w w' := by
  have := rint_any s w hs
  rw [h] at this
  exact this.mono fun _ _ ⟨h1, h2⟩ => ⟨h1, h2 ▸ Below.refl _ _⟩
theorem formatC {n : Int} {s : List UInt8} (h : Lib.itoa n = s) (w : World) (E : Env w) (h0 : -9223372036854775808 ≤ n) (h1 : n ≤ 9223372036854775807) : Calls Tryd.prog 20 #[.int .i64 n] w fun e w' => e = .returned (.string (bs s)) ∧ Below w.heap.size w w' := h ▸ format_any n w E h0 h1
theorem rformatC {n : Int} {s : List UInt8} (h : Lib.itoa n = s) (w : World) (h0 : -9223372036854775808 ≤ n) (h1 : n ≤ 9223372036854775807) : Calls Tryd.prog 21 #[.int .i64 n] w fun e w' => e = .returned (.string (bs s)) ∧ Below w.heap.size w w' :=
  (rformat_any n w h0 h1).mono fun _ _ ⟨h1, h2⟩ => ⟨h ▸ h1, h2 ▸ Below.refl _ _⟩
theorem rnameC {s : List UInt8} {b : Bool} (h : nameB s = b) (w : World) (hs : s.length ≤ maxLen) : Calls Tryd.prog 23 #[.string (bs s)] w fun e w' => e = .returned (.bool b) ∧ Below w.heap.size w w' :=
  (rname_any s w hs).mono fun _ _ ⟨h1, h2⟩ => ⟨h ▸ h1, h2 ▸ Below.refl _ _⟩
def True1 (w : World) (e : Ending) (w' : World) : Prop := e = .returned (.bool true) ∧ Below w.heap.size w w'
theorem wordsInts_walk (s : List UInt8) (w : World) (E : Env w) (hs : s.length ≤ maxLen) : Calls Tryd.prog 7 #[.string (bs s)] w (True1 w) := by
  have hs1 := hs
  unfold maxLen at hs
  by_cases hl : 1000 < s.length
  · go_enter Tryd.func7, Tryd.ntmps7
    go_wp2_with fail
    refine (alive_any _ E).mono ?_
    rintro e w1 ⟨rfl, hb1⟩
    go_wp2_with fail
    go_ret
    exact ⟨rfl, hb1⟩
  · obtain ⟨n, x, hF⟩ : ∃ n x, intF s = (n, x) := ⟨_, _, rfl⟩
    have HF := Lib.hid hF
    have hx := (intF_range s)
    rw [hF] at hx
    obtain ⟨⟨hn1, hn2⟩, hx1, hx2⟩ := hx
    simp only at hn1 hn2 hx1 hx2
    by_cases h0 : x = 0
    · subst h0
      have HI := Lib.hid (itoa_int hF).1
      clear hF
      go_enter Tryd.func7, Tryd.ntmps7
      go_wp2_with fail
      refine (intC HF.out _ E (by omega)).mono ?_
      rintro e w1 ⟨rfl, hb1⟩
      go_wp2_with fail
      refine (rintC HF.out _ hs1).mono ?_
      rintro e w2 ⟨rfl, hb2⟩
      have hB2 := bel_then hb1 hb1.size hb2
      go_wp2_with fail
      refine (formatC HI.out _ (E.now hB2) hn1 hn2).mono ?_
      rintro e w3 ⟨rfl, hb3⟩
      have hB3 := bel_then hB2 hB2.size hb3
      go_wp2_with fail
      refine (alive_any _ (E.now hB3)).mono ?_
      rintro e w4 ⟨rfl, hb4⟩
      go_wp2_with fail
      go_ret
      exact ⟨rfl, bel_then hB3 hB3.size hb4⟩
    · have hx0 : (x == 0) = false := by simp [h0]
      have hx3 : (x != 0) = true := by simp [h0]
      clear hF h0
      go_enter Tryd.func7, Tryd.ntmps7
      go_wp2_with fail
      refine (intC HF.out _ E (by omega)).mono ?_
      rintro e w1 ⟨rfl, hb1⟩
      go_wp2_with fail
      refine (rintC HF.out _ hs1).mono ?_
      rintro e w2 ⟨rfl, hb2⟩
      have hB2 := bel_then hb1 hb1.size hb2
      go_wp2_with fail
      refine (alive_any _ (E.now hB2)).mono ?_
      rintro e w4 ⟨rfl, hb4⟩
      go_wp2_with fail
      go_ret
      exact ⟨rfl, bel_then hB2 hB2.size hb4⟩
theorem wordsFormats_walk (n : Int) (w : World) (E : Env w) (hn : I64n n) : Calls Tryd.prog 8 #[.int .i64 n] w (True1 w) := by
  obtain ⟨hn1, hn2⟩ := hn
  obtain ⟨t, hT⟩ : ∃ t, Lib.itoa n = t := ⟨_, rfl⟩
  have hF := int_itoa n hn1 hn2
  have hlen := itoa_len ⟨hn1, hn2⟩
  rw [hT] at hF hlen
  have HT := Lib.hid hT
  have HF := Lib.hid hF
  clear hT hF
  go_enter Tryd.func8, Tryd.ntmps8
  go_wp2_with fail
  refine (formatC HT.out _ E hn1 hn2).mono ?_
  rintro e w1 ⟨rfl, hb1⟩
  go_wp2_with fail
  refine (intC HF.out _ (E.now hb1) (by omega)).mono ?_
  rintro e w2 ⟨rfl, hb2⟩
  have hB2 := bel_then hb1 hb1.size hb2
  go_wp2_with fail
  refine (formatC HT.out _ (E.now hB2) hn1 hn2).mono ?_
  rintro e w3 ⟨rfl, hb3⟩
  have hB3 := bel_then hB2 hB2.size hb3
  go_wp2_with fail
  refine (rformatC HT.out _ hn1 hn2).mono ?_
  rintro e w4 ⟨rfl, hb4⟩
  have hB4 := bel_then hB3 hB3.size hb4
  go_wp2_with fail
  refine (alive_any _ (E.now hB4)).mono ?_
  rintro e w5 ⟨rfl, hb5⟩
  go_wp2_with fail
  go_ret
  exact ⟨rfl, bel_then hB4 hB4.size hb5⟩
theorem wordsNames_walk (s : List UInt8) (w : World) (E : Env w) (hs : s.length ≤ maxLen) : Calls Tryd.prog 9 #[.string (bs s)] w (True1 w) := by
  have hs1 := hs
  unfold maxLen at hs
  by_cases hl : 1000 < s.length
  · go_enter Tryd.func9, Tryd.ntmps9
    go_wp2_with fail
    go_ret
    exact ⟨rfl, Below.refl _ _⟩
  · obtain ⟨b, hF⟩ : ∃ b, nameB s = b := ⟨_, rfl⟩
    have HF := Lib.hid hF
    clear hF
    cases b
    all_goals
      go_enter Tryd.func9, Tryd.ntmps9
      go_wp2_with fail
      refine (nameC HF.out _ hs1).mono ?_
      rintro e w1 ⟨rfl, hb1⟩
      go_wp2_with fail
      refine (rnameC HF.out _ hs1).mono ?_
      rintro e w2 ⟨rfl, hb2⟩
      have hB2 := bel_then hb1 hb1.size hb2
      go_wp2_with fail
      refine (alive_any _ (E.now hB2)).mono ?_
      rintro e w3 ⟨rfl, hb3⟩
      go_wp2_with fail
      go_ret
      exact ⟨rfl, bel_then hB2 hB2.size hb3⟩
theorem wordsLines_walk (s : List UInt8) (w : World) (E : Env w) (hs : s.length ≤ maxLen) : Calls Tryd.prog 3 #[.string (bs s)] w (True1 w) := by
  have hs1 := hs
  unfold maxLen at hs
  by_cases hl : 34000 < s.length
  · go_enter Tryd.func3, Tryd.ntmps3
    go_wp2_with fail
    refine (alive_any _ E).mono ?_
    rintro e w1 ⟨rfl, hb1⟩
    go_wp2_with fail
    go_ret
    exact ⟨rfl, hb1⟩
  · obtain ⟨out, n, x, hF⟩ : ∃ out n x, linesF s = (out, n, x) := ⟨_, _, _, rfl⟩
    have HF := Lib.hid hF
    clear hF
    go_enter Tryd.func3, Tryd.ntmps3
    go_wp2_with fail
    refine (linesC HF.out _ E hs1).mono ?_
    rintro e w1 ⟨A1, c1, rfl, hl1, hr1, hb1⟩
    go_wp2_with fail
    have hrl := rlines_any s w1 hs1
    rw [HF.out] at hrl
    refine hrl.mono ?_
    rintro e w2 ⟨A2, c2, rfl, hl2, hr2, hb2⟩
    have hB2 := bel_then hb1 hb1.size hb2
    clear hrl
    simp only at hl1 hr1 hl2 hr2
    go_wp2_with fail
    refine (sameC (r := true) (by simp) _ _ _ _ _ (hr1.now hb2) hr2 hl1 hl2).mono ?_
    rintro e w3 ⟨rfl, hb3⟩
    have hB3 := bel_then hB2 hB2.size hb3
    go_wp2_with fail
    refine (alive_any _ (E.now hB3)).mono ?_
    rintro e w4 ⟨rfl, hb4⟩
    go_wp2_with fail
    go_ret
    exact ⟨rfl, bel_then hB3 hB3.size hb4⟩
theorem wordsJoins_walk (ls : Lns) (A : Option Addr) (cap : Nat) (w : World) (E : Env w) (hr : RdS (cL cS) w (Lt w) A ls) (hfit : (cL (cL cS)).fit ls) (hcap : ls.length ≤ cap) : Calls Tryd.prog 4 #[.slice A ls.length cap] w (True1 w) := by
  have HFIT := Lib.hid hfit
  clear hfit
  go_enter Tryd.func4, Tryd.ntmps4
  go_wp2_with fail
  refine (small_any ls A cap _ hr HFIT.out).mono ?_
  rintro e w' ⟨b, rfl, HB, rfl⟩
  cases b with
  | false =>
    go_wp2_with fail
    refine (alive_any _ E).mono ?_
    rintro e w1 ⟨rfl, hb1⟩
    go_wp2_with fail
    go_ret
    exact ⟨rfl, hb1⟩
  | true =>
    have hsm := HB.out rfl
    obtain ⟨t, x, hF⟩ : ∃ t x, joinF ls = (t, x) := ⟨_, _, rfl⟩
    have HF := Lib.hid hF
    clear hF
    go_wp2_with fail
    refine (joinC HF.out A cap _ hr (by omega) (by omega)).mono ?_
    rintro e w1 ⟨rfl, hb1⟩
    go_wp2_with fail
    have hj := rjoin_any ls A cap w1 (hr.now hb1) (by omega) (by omega)
    rw [HF.out] at hj
    refine hj.mono ?_
    rintro e w' ⟨rfl, rfl⟩
    clear hj
    go_wp2_with fail
    refine (alive_any _ (E.now hb1)).mono ?_
    rintro e w2 ⟨rfl, hb2⟩
    go_wp2_with fail
    go_ret
    exact ⟨rfl, bel_then hb1 hb1.size hb2⟩
end Go.Proofs.YtfedhgkpgihmoaaDoor
