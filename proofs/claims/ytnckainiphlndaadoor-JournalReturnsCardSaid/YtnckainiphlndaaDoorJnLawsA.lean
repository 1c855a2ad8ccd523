/- The walk of the law JournalAppends. -/
import Derived.Test.YtnckainiphlndaaDoorJnAlive
namespace Go.Proofs.YtnckainiphlndaaDoor
set_option linter.unusedVariables false
set_option linter.unusedSimpArgs false
open Go.RowKit
attribute [local go_sem] bs_size bs_get bs_append bs_extract bs_toList
def True1 (w : World) (e : Ending) (w' : World) : Prop := e = .returned (.bool true) ∧ Below w.heap.size w w'
set_option maxRecDepth 100000 in
set_option maxHeartbeats 8000000 in
theorem journalAppends_walk (l : List Ent) (A : Option Addr) (cap : Nat) (t : Int) (s : List UInt8) (w : World) (E : Env w) (hr : RdS cE w (Lt w) A l) (hfit : (cL cE).fit l) (hcap : l.length ≤ cap) (ht : I64n t) (hs : s.length ≤ maxLen) :
    Calls Tryd.prog 3 #[.slice A l.length cap, .int .i64 t, .string (bs s)] w (True1 w) := by
  have hl : l.length ≤ maxLen := by have := hfit.1; unfold maxLen; omega
  have hsi : (s.length : Int) ≤ 9223372036854775807 := by unfold maxLen at hs; omega
  cases hfw : fewB l with
  | false =>
    go_enter Tryd.func3, Tryd.ntmps3
    go_wp2_with fail
    refine (fewC hfw A cap _ hr hl hfit.2).mono ?_
    rintro e w1 ⟨rfl, hb1⟩
    go_wp2_with fail
    refine (jalive_any _ (E.now hb1)).mono ?_
    rintro e w2 ⟨rfl, hb2⟩
    go_wp2_with fail
    go_ret
    exact ⟨rfl, bel_then hb1 hb1.size hb2⟩
  | true =>
    by_cases h3 : 3000 < s.length
    · go_enter Tryd.func3, Tryd.ntmps3
      go_wp2_with fail
      refine (fewC hfw A cap _ hr hl hfit.2).mono ?_
      rintro e w1 ⟨rfl, hb1⟩
      go_wp2_with fail
      refine (jalive_any _ (E.now hb1)).mono ?_
      rintro e w2 ⟨rfl, hb2⟩
      go_wp2_with fail
      go_ret
      exact ⟨rfl, bel_then hb1 hb1.size hb2⟩
    · cases hap : appF l t s with
      | mk a x =>
        have hgood := fun (hx : x = 0) => appF_good (j := l) (t := t) (s := s) (by rw [hap, hx])
        go_enter Tryd.func3, Tryd.ntmps3
        go_wp2_with fail
        refine (fewC hfw A cap _ hr hl hfit.2).mono ?_
        rintro e w1 ⟨rfl, hb1⟩
        have hr1 := hr.now hb1
        go_wp2_with fail
        refine (appendC hap A cap _ (E.now hb1) hr1 hl hcap ht hs).mono ?_
        rintro e w2 ⟨A2, c2, rfl, hl2, ha2, hb2⟩
        have hr2 := hr1.now hb2
        have hB2 := bel_then hb1 hb1.size hb2
        go_wp2_with fail
        refine (rappendC hap A cap _ hr2 hl ht hs).mono ?_
        rintro e w3 ⟨A3, c3, rfl, hl3, hc3, hb3⟩
        have hr3 := hr2.now hb3
        have ha3 := ha2.now hb3
        have hB3 := bel_then hB2 hB2.size hb3
        go_wp2_with fail
        refine (jsameC (r := true) (by simp) A2 A3 c2 c3 _ ha3 hc3 hl2.1 hl3.1).mono ?_
        rintro e w4 ⟨rfl, hb4⟩
        have hr4 := hr3.now hb4
        have ha4 := ha3.now hb4
        have hB4 := bel_then hB3 hB3.size hb4
        by_cases hx : x = 0
        · subst hx
          have hgd := hgood rfl
          rcases verG_ge l 0 0 0 with hv | hv
          · have hva := hgd hv
            go_wp2_with fail
            refine (rverifyC (j := l) hv A cap _ (E.now hB4) hr4 hl hcap).mono ?_
            rintro e w5 ⟨rfl, hb5⟩
            have ha5 := ha4.now hb5
            have hB5 := bel_then hB4 hB4.size hb5
            go_wp2_with fail
            refine (verifyC hva A2 c2 _ (E.now hB5) ha5 hl2.1 hl2.2).mono ?_
            rintro e w6 ⟨rfl, hb6⟩
            have hB6 := bel_then hB5 hB5.size hb6
            go_wp2_with fail
            refine (jalive_any _ (E.now hB6)).mono ?_
            rintro e w7 ⟨rfl, hb7⟩
            go_wp2_with fail
            go_ret
            exact ⟨rfl, bel_then hB6 hB6.size hb7⟩
          · obtain ⟨n, hn⟩ : ∃ n, verG 0 0 0 l = n := ⟨_, rfl⟩
            have hn0 : 0 ≤ n := by rw [← hn]; exact_mod_cast hv.1
            go_wp2_with fail
            refine (rverifyC (j := l) hn A cap _ (E.now hB4) hr4 hl hcap).mono ?_
            rintro e w5 ⟨rfl, hb5⟩
            have hB5 := bel_then hB4 hB4.size hb5
            go_wp2_with fail
            refine (jalive_any _ (E.now hB5)).mono ?_
            rintro e w7 ⟨rfl, hb7⟩
            go_wp2_with fail
            go_ret
            exact ⟨rfl, bel_then hB5 hB5.size hb7⟩
        · have hxb : (x != 0) = true := by simpa using hx
          go_wp2_with fail
          refine (jalive_any _ (E.now hB4)).mono ?_
          rintro e w7 ⟨rfl, hb7⟩
          go_wp2_with fail
          go_ret
          exact ⟨rfl, bel_then hB4 hB4.size hb7⟩
end Go.Proofs.YtnckainiphlndaaDoor
