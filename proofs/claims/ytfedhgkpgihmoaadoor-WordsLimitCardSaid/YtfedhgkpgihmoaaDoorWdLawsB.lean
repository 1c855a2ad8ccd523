/- WordsLists, WordsRoundTrip, walked. -/
import Derived.Test.YtfedhgkpgihmoaaDoorWdLawsA
namespace Go.Proofs.YtfedhgkpgihmoaaDoor
set_option linter.unusedVariables false
set_option linter.unusedSimpArgs false
open Go.RowKit
attribute [local go_sem] bs_size bs_get bs_append bs_extract bs_toList
theorem rlistC {s : List UInt8} {r : List Int × Int} (h : listF s = r) (w : World) (hs : s.length ≤ 90000) : Calls Tryd.prog 25 #[.string (bs s)] w (ListPost w r) := h ▸ rlist_any s w hs
theorem fmtListC {l : List Int} {s : List UInt8} (h : fmtF l = s) (A : Option Addr) (cap : Nat) (w : World) (E : Env w) (hr : RdS cI w (Lt w) A l) (hl : l.length ≤ 100000) :
    Calls Tryd.prog 27 #[.slice A l.length cap] w fun e w' => e = .returned (.string (bs s)) ∧ Below w.heap.size w w' := h ▸ fmtList_any l A cap w E hr hl
theorem rfmtListC {l : List Int} {s : List UInt8} (h : fmtF l = s) (A : Option Addr) (cap : Nat) (w : World) (hr : RdS cI w (Lt w) A l) (hl : l.length ≤ 100000) :
    Calls Tryd.prog 28 #[.slice A l.length cap] w fun e w' => e = .returned (.string (bs s)) ∧ w = w' := h ▸ rfmtList_any l A cap w hr hl
theorem listK_len : ∀ (ps : List (List UInt8)) (acc : List Int), (listK acc ps).1.length ≤ acc.length + ps.length
  | [], acc => by simp [listK]
  | p :: r, acc => by
    have ih := listK_len r (acc ++ [(intF p).1])
    rw [listK]
    split
    · simp at ih ⊢; omega
    · simp
theorem listF_len (s : List UInt8) : (listF s).1.length ≤ s.length + 1 := by
  unfold listF
  split
  · simp
  · have h1 := listK_len (spl 44 s) []
    have h2 := spl_count (c := 44) s
    simp at h1
    omega
theorem fmtF_len (l : List Int) (h : ∀ n ∈ l, I64n n) : (fmtF l).length ≤ 22 * l.length + 1 := by
  by_cases hne : l = []
  · subst hne; simp [fmtF]
  · have h1 := fmtP_len l h l.length (Nat.le_refl _)
    rw [fmtP_all l _ (by omega) hne] at h1
    omega
set_option maxRecDepth 100000 in
set_option maxHeartbeats 8000000 in
theorem wordsLists_walk (s : List UInt8) (l : List Int) (A : Option Addr) (cap : Nat) (w : World) (E : Env w) (hs : s.length ≤ maxLen) (hr : RdS cI w (Lt w) A l) (hfit : (cL cI).fit l) (hcap : l.length ≤ cap) :
    Calls Tryd.prog 10 #[.string (bs s), .slice A l.length cap] w (True1 w) := by
  have hs1 := hs
  unfold maxLen at hs
  have hfl := hfit.1
  clear hfit
  by_cases hg : s.length ≤ 1000 ∧ l.length ≤ 200
  · obtain ⟨g1, g2⟩ := hg
    obtain ⟨a, x, hF⟩ : ∃ a x, listF s = (a, x) := ⟨_, _, rfl⟩
    have hal := listF_len s
    rw [hF] at hal
    simp only at hal
    have HF := Lib.hid hF
    have hi64 := rdI_all hr
    have hbk := list_fmt l hi64
    have htl := fmtF_len l hi64
    obtain ⟨t, ht⟩ : ∃ t, fmtF l = t := ⟨_, rfl⟩
    rw [ht] at hbk htl
    have HT := Lib.hid ht
    have HBK := Lib.hid hbk
    clear ht hbk hi64
    have HP : Hid (x = 0 → fmtF a = s) := Lib.hid fun h => (fmt_list (by rw [hF, h])).1
    clear hF
    have hcase : x = 0 ∨ (x == 0) = false := by by_cases h : x = 0 <;> simp [h]
    rcases hcase with hx | hx
    · subst hx
      have HP2 := Lib.hid (HP.out rfl)
      clear HP
      go_enter Tryd.func10, Tryd.ntmps10
      go_wp2_with fail
      refine (listC HF.out _ E (by omega)).mono ?_
      rintro e w1 ⟨A1, c1, rfl, hr1, hb1⟩
      go_wp2_with fail
      refine (rlistC HF.out _ (by omega)).mono ?_
      rintro e w2 ⟨A2, c2, rfl, hr2, hb2⟩
      have hB2 := bel_then hb1 hb1.size hb2
      simp only at hr1 hr2
      have hr1' := hr1.now hb2
      have hrl := hr.now hB2
      clear hr1 hb2
      go_wp2_with fail
      refine (sameIntsC (r := true) (by simp) _ _ _ _ _ hr1' hr2 (by unfold maxLen; omega) (by unfold maxLen; omega)).mono ?_
      rintro e w3 ⟨rfl, hb3⟩
      have hB3 := bel_then hB2 hB2.size hb3
      have hr3 := hr1'.now hb3
      have hrl3 := hrl.now hb3
      clear hr1' hr2 hrl hB2 hb3
      go_wp2_with fail
      refine (fmtListC HP2.out _ _ _ (E.now hB3) hr3 (by omega)).mono ?_
      rintro e w4 ⟨rfl, hb4⟩
      have hB4 := bel_then hB3 hB3.size hb4
      have hrl4 := hrl3.now hb4
      clear hr3 hrl3 hB3 hb4
      go_wp2_with fail
      refine (fmtListC HT.out _ _ _ (E.now hB4) hrl4 (by omega)).mono ?_
      rintro e w5 ⟨rfl, hb5⟩
      have hB5 := bel_then hB4 hB4.size hb5
      have hrl5 := hrl4.now hb5
      clear hrl4 hB4 hb5
      go_wp2_with fail
      refine (listC HBK.out _ (E.now hB5) (by omega)).mono ?_
      rintro e w6 ⟨A6, c6, rfl, hr6, hb6⟩
      have hB6 := bel_then hB5 hB5.size hb6
      have hrl6 := hrl5.now hb6
      simp only at hr6
      clear hrl5 hB5 hb6
      go_wp2_with fail
      refine (rfmtListC HT.out _ _ _ hrl6 (by omega)).mono ?_
      rintro e w' ⟨rfl, rfl⟩
      go_wp2_with fail
      refine (sameIntsC (r := true) (by simp) _ _ _ _ _ hr6 hrl6 (by unfold maxLen; omega) (by unfold maxLen; omega)).mono ?_
      rintro e w7 ⟨rfl, hb7⟩
      have hB7 := bel_then hB6 hB6.size hb7
      go_wp2_with fail
      refine (alive_any _ (E.now hB7)).mono ?_
      rintro e w8 ⟨rfl, hb8⟩
      go_wp2_with fail
      go_ret
      exact ⟨rfl, bel_then hB7 hB7.size hb8⟩
    · clear HP
      go_enter Tryd.func10, Tryd.ntmps10
      go_wp2_with fail
      refine (listC HF.out _ E (by omega)).mono ?_
      rintro e w1 ⟨A1, c1, rfl, hr1, hb1⟩
      go_wp2_with fail
      refine (rlistC HF.out _ (by omega)).mono ?_
      rintro e w2 ⟨A2, c2, rfl, hr2, hb2⟩
      have hB2 := bel_then hb1 hb1.size hb2
      simp only at hr1 hr2
      have hr1' := hr1.now hb2
      have hrl := hr.now hB2
      clear hr1 hb2
      go_wp2_with fail
      refine (sameIntsC (r := true) (by simp) _ _ _ _ _ hr1' hr2 (by unfold maxLen; omega) (by unfold maxLen; omega)).mono ?_
      rintro e w3 ⟨rfl, hb3⟩
      have hB4 := bel_then hB2 hB2.size hb3
      have hrl4 := hrl.now hb3
      clear hr1' hr2 hrl hB2 hb3
      go_wp2_with fail
      refine (fmtListC HT.out _ _ _ (E.now hB4) hrl4 (by omega)).mono ?_
      rintro e w5 ⟨rfl, hb5⟩
      have hB5 := bel_then hB4 hB4.size hb5
      have hrl5 := hrl4.now hb5
      clear hrl4 hB4 hb5
      go_wp2_with fail
      refine (listC HBK.out _ (E.now hB5) (by omega)).mono ?_
      rintro e w6 ⟨A6, c6, rfl, hr6, hb6⟩
      have hB6 := bel_then hB5 hB5.size hb6
      have hrl6 := hrl5.now hb6
      simp only at hr6
      clear hrl5 hB5 hb6
      go_wp2_with fail
      refine (rfmtListC HT.out _ _ _ hrl6 (by omega)).mono ?_
      rintro e w' ⟨rfl, rfl⟩
      go_wp2_with fail
      refine (sameIntsC (r := true) (by simp) _ _ _ _ _ hr6 hrl6 (by unfold maxLen; omega) (by unfold maxLen; omega)).mono ?_
      rintro e w7 ⟨rfl, hb7⟩
      have hB7 := bel_then hB6 hB6.size hb7
      go_wp2_with fail
      refine (alive_any _ (E.now hB7)).mono ?_
      rintro e w8 ⟨rfl, hb8⟩
      go_wp2_with fail
      go_ret
      exact ⟨rfl, bel_then hB7 hB7.size hb8⟩
  · have HAL := Lib.hid (fun W EW => alive_any W EW)
    go_enter Tryd.func10, Tryd.ntmps10
    go_wp2_with fail
    all_goals first
      | (exfalso; omega)
      | (refine (HAL.out _ E).mono ?_
         rintro e w1 ⟨rfl, hb1⟩
         go_wp2_with fail
         go_ret
         exact ⟨rfl, hb1⟩)
theorem cnt_of_lines {s : List UInt8} {m : Lns} {n : Nat} (h : linesF s = (m, n, 0)) : m.length ≤ 32768 ∧ cnt m ≤ 32768 := by
  obtain ⟨h1, h2, _, h4⟩ := lines_ok h
  have h5 := textOf_len m h1
  rw [← h2] at h5
  have h6 : cnt m ≤ tsz m ∧ m.length ≤ tsz m := by
    clear h h2 h4 h5
    induction m with
    | nil => simp [cnt, tsz]
    | cons l r ih =>
      simp only [List.all_cons, Bool.and_eq_true] at h1
      have ih := ih h1.2
      have hl := lens_wsz l
      have hne := List.length_pos_iff.2 (goodL_iff.1 h1.1).1
      simp only [cnt, tsz, List.map_cons, List.sum_cons, List.length_cons] at ih ⊢
      omega
  omega
set_option maxRecDepth 100000 in
set_option maxHeartbeats 8000000 in
theorem wordsRoundTrip_walk (ls : Lns) (A : Option Addr) (cap : Nat) (s : List UInt8) (w : World) (E : Env w) (hr : RdS (cL cS) w (Lt w) A ls) (hfit : (cL (cL cS)).fit ls) (hcap : ls.length ≤ cap) (hs : s.length ≤ maxLen) :
    Calls Tryd.prog 6 #[.slice A ls.length cap, .string (bs s)] w (True1 w) := by
  have hs1 := hs
  unfold maxLen at hs
  have HFIT := Lib.hid hfit
  clear hfit
  have HAL := Lib.hid (fun W EW => alive_any W EW)
  go_enter Tryd.func6, Tryd.ntmps6
  go_wp2_with fail
  refine (small_any ls A cap _ hr HFIT.out).mono ?_
  rintro e w' ⟨b, rfl, HB, rfl⟩
  cases b with
  | false =>
    go_wp2_with fail
    refine (HAL.out _ E).mono ?_
    rintro e w1 ⟨rfl, hb1⟩
    go_wp2_with fail
    go_ret
    exact ⟨rfl, hb1⟩
  | true =>
    have hsm := HB.out rfl
    by_cases hl : 34000 < s.length
    · go_wp2_with fail
      refine (HAL.out _ E).mono ?_
      rintro e w1 ⟨rfl, hb1⟩
      go_wp2_with fail
      go_ret
      exact ⟨rfl, hb1⟩
    · obtain ⟨t, x, hF⟩ : ∃ t x, joinF ls = (t, x) := ⟨_, _, rfl⟩
      have HF := Lib.hid hF
      have HJL : Hid (x = 0 → linesF t = (ls, 0, 0)) := Lib.hid fun h => lines_join (by rw [hF, h])
      have HTL : Hid (t.length ≤ 32768) := Lib.hid (by
        unfold joinF at hF
        split at hF
        · split at hF
          · cases hF; simp
          · cases hF; omega
        · cases hF; simp)
      obtain ⟨m, n, y, hG⟩ : ∃ m n y, linesF s = (m, n, y) := ⟨_, _, _, rfl⟩
      have HG := Lib.hid hG
      have HLJ : Hid (y = 0 → joinF m = (s, 0) ∧ m.length ≤ 32768 ∧ cnt m ≤ 32768) := Lib.hid fun h => ⟨join_lines (n := n) (by rw [hG, h]), cnt_of_lines (n := n) (by rw [hG, h])⟩
      clear hF hG
      -- the second half, from any later world
      have HREST : Hid (∀ W : World, Below w.heap.size w W → RdS (cL cS) W (Lt W) A ls → True) := Lib.hid fun _ _ _ => trivial
      have hcx : x = 0 ∨ (x == 0) = false := by by_cases h : x = 0 <;> simp [h]
      have hcy : y = 0 ∨ (y == 0) = false := by by_cases h : y = 0 <;> simp [h]
      go_wp2_with fail
      refine (joinC HF.out A cap _ hr (by omega) (by omega)).mono ?_
      rintro e w1 ⟨rfl, hb1⟩
      have hr1 := hr.now hb1
      rcases hcx with hx | hx
      · subst hx
        have HJ2 := Lib.hid (HJL.out rfl)
        go_wp2_with fail
        refine (linesC HJ2.out _ (E.now hb1) (by unfold maxLen; have := HTL.out; omega)).mono ?_
        rintro e w2 ⟨A2, c2, rfl, hl2, hr2, hb2⟩
        have hB2 := bel_then hb1 hb1.size hb2
        have hr2' := hr1.now hb2
        simp only at hl2 hr2
        clear hr1 hb1 hb2
        go_wp2_with fail
        refine (sameC (r := true) (by simp) _ _ _ _ _ hr2 hr2' hl2 (by unfold maxLen; omega)).mono ?_
        rintro e w3 ⟨rfl, hb3⟩
        have hB3 := bel_then hB2 hB2.size hb3
        clear hr2 hr2' hB2 hb3
        go_wp2_with fail
        refine (linesC HG.out _ (E.now hB3) hs1).mono ?_
        rintro e w4 ⟨A4, c4, rfl, hl4, hr4, hb4⟩
        have hB4 := bel_then hB3 hB3.size hb4
        simp only at hl4 hr4
        clear hB3 hb4
        rcases hcy with hy | hy
        · subst hy
          obtain ⟨j1, j2, j3⟩ := HLJ.out rfl
          have J1 := Lib.hid j1
          clear j1
          go_wp2_with fail
          refine (joinC J1.out A4 c4 _ hr4 (by omega) (by omega)).mono ?_
          rintro e w5 ⟨rfl, hb5⟩
          have hB5 := bel_then hB4 hB4.size hb5
          go_wp2_with fail
          refine (HAL.out _ (E.now hB5)).mono ?_
          rintro e w6 ⟨rfl, hb6⟩
          go_wp2_with fail
          go_ret
          exact ⟨rfl, bel_then hB5 hB5.size hb6⟩
        · go_wp2_with fail
          refine (HAL.out _ (E.now hB4)).mono ?_
          rintro e w6 ⟨rfl, hb6⟩
          go_wp2_with fail
          go_ret
          exact ⟨rfl, bel_then hB4 hB4.size hb6⟩
      · go_wp2_with fail
        refine (linesC HG.out _ (E.now hb1) hs1).mono ?_
        rintro e w4 ⟨A4, c4, rfl, hl4, hr4, hb4⟩
        have hB4 := bel_then hb1 hb1.size hb4
        simp only at hl4 hr4
        clear hb1 hb4 hr1
        rcases hcy with hy | hy
        · subst hy
          obtain ⟨j1, j2, j3⟩ := HLJ.out rfl
          have J1 := Lib.hid j1
          clear j1
          go_wp2_with fail
          refine (joinC J1.out A4 c4 _ hr4 (by omega) (by omega)).mono ?_
          rintro e w5 ⟨rfl, hb5⟩
          have hB5 := bel_then hB4 hB4.size hb5
          go_wp2_with fail
          refine (HAL.out _ (E.now hB5)).mono ?_
          rintro e w6 ⟨rfl, hb6⟩
          go_wp2_with fail
          go_ret
          exact ⟨rfl, bel_then hB5 hB5.size hb6⟩
        · go_wp2_with fail
          refine (HAL.out _ (E.now hB4)).mono ?_
          rintro e w6 ⟨rfl, hb6⟩
          go_wp2_with fail
          go_ret
          exact ⟨rfl, bel_then hB4 hB4.size hb6⟩
end Go.Proofs.YtfedhgkpgihmoaaDoor
