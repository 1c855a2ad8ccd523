/- The walk of the law TabletextPrints. -/
import Derived.Test.YtlblfblkallnhaaGreatDoorTbLawL
import Derived.Test.YtlblfblkallnhaaGreatDoorTbRpB
namespace Go.Proofs.YtlblfblkallnhaaGreatDoor
set_option linter.unusedVariables false
set_option linter.unusedSimpArgs false
open Go.RowKit
attribute [local go_sem] bs_size bs_get bs_append bs_extract bs_toList
attribute [-go_sem] run_equalIn_agg
theorem rtprintC {v : TabV} {s : List UInt8} {x : Int} (h : prtT v.t = (s, x)) (w : World) (hr : TvR w v) (hsm : ∀ r ∈ v.t.rts, ShR r) : Calls Tryz.prog 11 #[tvA v] w fun e w' => e = .returned (.tuple #[.string (bs s), .int .i64 x]) ∧ Below w.heap.size w w' := by
  have := rtprint_any v w hr hsm
  rw [h] at this
  exact this
set_option maxRecDepth 100000 in
set_option maxHeartbeats 16000000 in
theorem tabletextPrints_walk (v : TabV) (w : World) (E : EnvR w) (hv : TvR w v) : Calls Tryz.prog 3 #[tvA v] w (True1 w) := by
  have hb0 := Bx.new hv
  have x0 := hb0.x0
  have x1 := hb0.x1
  have x2 := hb0.x2
  have x3 := hb0.x3
  have x4 := hb0.x4
  have HE := Lib.hid E
  clear E hv
  cases hf : fewT v.t with
  | false =>
    have HF := Lib.hid fun W h => fewC hf W h
    clear hf
    unfold tvA at *
    go_enter Tryz.func3, Tryz.ntmps3
    go_wp2_with fail
    refine (HF.out _ hb0.rd).mono ?_
    rintro e w1 ⟨rfl, hq1⟩
    have hb1 := hb0.now hq1
    clear x0 x1 x2 x3 x4 hb0 hq1
    go_wp2_with fail
    refine (alive_any _ (HE.out.now hb1.bel)).mono ?_
    rintro e w2 ⟨rfl, hq2⟩
    have hz := hb1.now hq2
    go_wp2_with fail
    go_ret
    exact ⟨rfl, hz.bel⟩
  | true =>
    have HF := Lib.hid fun W h => fewC hf W h
    obtain ⟨f1, f2, f3, f4⟩ := few_sh hf
    obtain ⟨⟨s, x⟩, hp⟩ : ∃ r, prtT v.t = r := ⟨_, rfl⟩
    have HPR := Lib.hid fun W E h => tprintC hp W E h f4
    have HRR := Lib.hid fun W h => rtprintC hp W h f4
    have hsl := prt_len hp
    have t1 : (s == s) = true := by simp
    have t2 : (x == x) = true := by simp
    clear hf f1 f2 f3 f4 hp
    unfold tvA at *
    go_enter Tryz.func3, Tryz.ntmps3
    go_wp2_with fail
    refine (HF.out _ hb0.rd).mono ?_
    rintro e w1 ⟨rfl, hq1⟩
    have hb1 := hb0.now hq1
    clear x0 x1 x2 x3 x4 hb0 hq1
    have x0 := hb1.x0
    have x1 := hb1.x1
    have x2 := hb1.x2
    have x3 := hb1.x3
    have x4 := hb1.x4
    go_wp2_with fail
    refine (HPR.out _ (HE.out.now hb1.bel) hb1.rd).mono ?_
    rintro e w2 ⟨rfl, hq2⟩
    have hb2 := hb1.now hq2
    clear x0 x1 x2 x3 x4 hb1 hq2
    have x0 := hb2.x0
    have x1 := hb2.x1
    have x2 := hb2.x2
    have x3 := hb2.x3
    have x4 := hb2.x4
    go_wp2_with fail
    refine (HRR.out _ hb2.rd).mono ?_
    rintro e w3 ⟨rfl, hq3⟩
    have hb3 := hb2.now hq3
    clear x0 x1 x2 x3 x4 hb2 hq3
    go_wp2_with fail
    refine (alive_any _ (HE.out.now hb3.bel)).mono ?_
    rintro e w4 ⟨rfl, hq4⟩
    have hz := hb3.now hq4
    go_wp2_with fail
    go_ret
    exact ⟨rfl, hz.bel⟩
end Go.Proofs.YtlblfblkallnhaaGreatDoor
