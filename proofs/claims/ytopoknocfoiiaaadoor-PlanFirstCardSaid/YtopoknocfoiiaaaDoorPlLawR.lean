/- The walk of the law PlanRoundTrips. -/
import Derived.Test.YtopoknocfoiiaaaDoorPlAliveB
import Derived.Test.YtopoknocfoiiaaaDoorPlAliveP
namespace Go.Proofs.YtopoknocfoiiaaaDoor
set_option linter.unusedVariables false
set_option linter.unusedSimpArgs false
open Go.RowKit
attribute [local go_sem] bs_size bs_get bs_append bs_extract bs_toList
attribute [-go_sem] run_equalIn_agg

def True1 (w : World) (e : Ending) (w' : World) : Prop := e = .returned (.bool true) ∧ Below w.heap.size w w'
theorem fewC {v : LV} {b : Bool} (h : fewB v.l = b) (w : World) (hr : LvR w v) : Calls Tryd.prog 6 #[lvA v] w fun e w' => e = .returned (.bool b) ∧ Below w.heap.size w w' := h ▸ few_any v w hr
theorem printC {v : LV} {t : List UInt8} {x : Int} (h : prtL v.l = (t, x)) (w : World) (E : EnvS w) (hr : LvR w v) (hj : v.l.jts.length ≤ 1000) : Calls Tryd.prog 8 #[lvA v] w fun e w' => e = .returned (.tuple #[.string (bs t), .int .i64 x]) ∧ Below w.heap.size w w' := by
  have h2 := print_any v w E hr hj
  rw [h] at h2
  exact h2
theorem sameC {a b : LV} {r : Bool} (h : decide (a.l = b.l) = r) (w : World) (ha : LvR w a) (hb : LvR w b) : Calls Tryd.prog 11 #[lvA a, lvA b] w fun e w' => e = .returned (.bool r) ∧ Below w.heap.size w w' := h ▸ sameL_any a b w ha hb
/-- A boxed layout that a call gave. -/
structure BxO (g : Nat) (v : LV) (w : World) : Prop where
  blk : Blk w g 28 #[.string (bs v.l.name), .slice v.A1 v.l.secs.length v.c1, .slice v.A2 v.l.els.length v.c2, .slice v.A3 v.l.jts.length v.c3, .slice v.A4 v.l.sgs.length v.c4, .slice v.A5 v.l.bls.length v.c5]
  rd : LvR w v
theorem BxO.now {g : Nat} {v : LV} {w w' : World} (h : BxO g v w) (hb : Below w.heap.size w w') : BxO g v w' := ⟨h.blk.now hb, h.rd.now hb⟩
theorem BxO.new {v : LV} {w : World} (h : LvR w v) : BxO w.heap.size v (w.alloc (.cells #[.string (bs v.l.name), .slice v.A1 v.l.secs.length v.c1, .slice v.A2 v.l.els.length v.c2, .slice v.A3 v.l.jts.length v.c3, .slice v.A4 v.l.sgs.length v.c4, .slice v.A5 v.l.bls.length v.c5] 28)) := ⟨Blk.new _ _ _ _ rfl, h.now ((Below.refl _ _).alloc (Nat.le_refl _) _)⟩
section
variable {g : Nat} {v : LV} {w : World}
theorem BxO.x0 (h : BxO g v w) : w.cell? ⟨g, 0, none⟩ = some (.string (bs v.l.name)) := h.blk.cell 0
theorem BxO.x1 (h : BxO g v w) : w.cell? ⟨g, 1, none⟩ = some (.slice v.A1 v.l.secs.length v.c1) := h.blk.cell 1
theorem BxO.x2 (h : BxO g v w) : w.cell? ⟨g, 2, none⟩ = some (.slice v.A2 v.l.els.length v.c2) := h.blk.cell 2
theorem BxO.x3 (h : BxO g v w) : w.cell? ⟨g, 3, none⟩ = some (.slice v.A3 v.l.jts.length v.c3) := h.blk.cell 3
theorem BxO.x4 (h : BxO g v w) : w.cell? ⟨g, 4, none⟩ = some (.slice v.A4 v.l.sgs.length v.c4) := h.blk.cell 4
theorem BxO.x5 (h : BxO g v w) : w.cell? ⟨g, 5, none⟩ = some (.slice v.A5 v.l.bls.length v.c5) := h.blk.cell 5
end
set_option maxRecDepth 100000 in
set_option maxHeartbeats 16000000 in
theorem planRoundTrips_walk (v : LV) (s : List UInt8) (w : World) (E : EnvS w) (hv : LvR w v) (hs : s.length ≤ maxLen) : Calls Tryd.prog 3 #[lvA v, .string (bs s)] w (True1 w) := by
  have hb0 := Bx.new hv
  unfold maxLen at hs
  have x0 := hb0.x0
  have x1 := hb0.x1
  have x2 := hb0.x2
  have x3 := hb0.x3
  have x4 := hb0.x4
  have x5 := hb0.x5
  cases hf : fewB v.l with
  | false =>
    have HF := Lib.hid fun W h => fewC hf W h
    clear hf hs hv
    unfold lvA at *
    go_enter Tryd.func3, Tryd.ntmps3
    go_wp2_with fail
    refine (HF.out _ hb0.rd).mono ?_
    rintro e w1 ⟨rfl, hq1⟩
    have hb1 := hb0.now hq1
    clear x0 x1 x2 x3 x4 x5
    go_wp2_with fail
    refine (alive_any _ (E.now hb1.bel)).mono ?_
    rintro e w2 ⟨rfl, hq2⟩
    have hz := hb1.now hq2
    skip
    go_wp2_with fail
    go_ret
    exact ⟨rfl, hz.bel⟩
  | true =>
    have HF := Lib.hid fun W h => fewC hf W h
    obtain ⟨_, hj, _⟩ := fewB_iff.1 hf
    clear hf
    by_cases hlong : 10000 < s.length
    · have hl2 : (10000 : Int) < (s.length : Int) := by omega
      clear hs hv hlong
      unfold lvA at *
      go_enter Tryd.func3, Tryd.ntmps3
      go_wp2_with fail
      refine (HF.out _ hb0.rd).mono ?_
      rintro e w1 ⟨rfl, hq1⟩
      have hb1 := hb0.now hq1
      clear x0 x1 x2 x3 x4 x5
      go_wp2_with fail
      refine (alive_any _ (E.now hb1.bel)).mono ?_
      rintro e w2 ⟨rfl, hq2⟩
      have hz := hb1.now hq2
      skip
      go_wp2_with fail
      go_ret
      exact ⟨rfl, hz.bel⟩
    have hl2 : ¬ (10000 : Int) < (s.length : Int) := by omega
    have hsl : s.length ≤ maxLen := by unfold maxLen; omega
    obtain ⟨⟨m, n, f⟩, hps⟩ : ∃ r, parL s = r := ⟨_, rfl⟩
    have HPS := Lib.hid fun W E => parC hps W E hsl
    by_cases hc : chkL v.l = 0
    · obtain ⟨t, hpt⟩ := prt_ok hc hj
      have htl := prt_len hpt
      have hpr := par_prt hpt
      have HPT := Lib.hid fun W E => parC hpr W E (by unfold maxLen; omega)
      have HPR := Lib.hid fun W E h => printC hpt W E h (by omega)
      have HCK := Lib.hid fun W E h => checkC v rfl hc W E h (by omega)
      clear htl hpr hpt hc hs hv hlong hsl
      by_cases hf0 : f = 0
      · subst hf0
        obtain ⟨hpm, hcm⟩ := prt_par hps
        have hjm := jts_few hcm
        clear hps
        unfold lvA at *
        go_enter Tryd.func3, Tryd.ntmps3
        go_wp2_with fail
        refine (HF.out _ hb0.rd).mono ?_
        rintro e w1 ⟨rfl, hq1⟩
        have hb1 := hb0.now hq1
        clear x0 x1 x2 x3 x4 x5
        have x0 := hb1.x0
        have x1 := hb1.x1
        have x2 := hb1.x2
        have x3 := hb1.x3
        have x4 := hb1.x4
        have x5 := hb1.x5
        go_wp2_with fail
        refine (HPR.out _ (E.now hb1.bel) hb1.rd).mono ?_
        rintro e w2 ⟨rfl, hq2⟩
        have hb2 := hb1.now hq2
        clear x0 x1 x2 x3 x4 x5
        have x0 := hb2.x0
        have x1 := hb2.x1
        have x2 := hb2.x2
        have x3 := hb2.x3
        have x4 := hb2.x4
        have x5 := hb2.x5
        go_wp2_with fail
        refine (HCK.out _ (E.now hb2.bel) hb2.rd).mono ?_
        rintro e w3 ⟨rfl, hq3⟩
        have hb3 := hb2.now hq3
        clear x0 x1 x2 x3 x4 x5
        have x0 := hb3.x0
        have x1 := hb3.x1
        have x2 := hb3.x2
        have x3 := hb3.x3
        have x4 := hb3.x4
        have x5 := hb3.x5
        go_wp2_with fail
        refine (HPT.out _ (E.now hb3.bel)).mono ?_
        rintro e w4 ⟨u, hu, rfl, hur, hq4⟩
        have hal := hq4.alloc hq4.size (.cells #[.string (bs u.l.name), .slice u.A1 u.l.secs.length u.c1, .slice u.A2 u.l.els.length u.c2, .slice u.A3 u.l.jts.length u.c3, .slice u.A4 u.l.sgs.length u.c4, .slice u.A5 u.l.bls.length u.c5] 28)
        have hbu := BxO.new hur
        have HU := Lib.hid hu
        have hb4 := hb3.now hal
        clear hur hu hal
        clear x0 x1 x2 x3 x4 x5
        have x0 := hb4.x0
        have x1 := hb4.x1
        have x2 := hb4.x2
        have x3 := hb4.x3
        have x4 := hb4.x4
        have x5 := hb4.x5
        have y0 := hbu.x0
        have y1 := hbu.x1
        have y2 := hbu.x2
        have y3 := hbu.x3
        have y4 := hbu.x4
        have y5 := hbu.x5
        unfold lvA
        have hsm := sameC (a := u) (b := v) (decide_eq_true HU.out)
        unfold lvA at hsm
        have HSM := Lib.hid hsm
        clear hsm
        go_wp2_with fail
        refine (HSM.out _ hbu.rd hb4.rd).mono ?_
        rintro e w5 ⟨rfl, hq5⟩
        have hb5 := hb4.now hq5
        clear hbu y0 y1 y2 y3 y4 y5
        clear x0 x1 x2 x3 x4 x5
        go_wp2_with fail
        refine (HPS.out _ (E.now hb5.bel)).mono ?_
        rintro e w6 ⟨z, rfl, rfl, hzr, hq6⟩
        have hal := hq6.alloc hq6.size (.cells #[.string (bs z.l.name), .slice z.A1 z.l.secs.length z.c1, .slice z.A2 z.l.els.length z.c2, .slice z.A3 z.l.jts.length z.c3, .slice z.A4 z.l.sgs.length z.c4, .slice z.A5 z.l.bls.length z.c5] 28)
        have hbz := BxO.new hzr
        have hb6 := hb5.now hal
        clear hzr hal
        have y0 := hbz.x0
        have y1 := hbz.x1
        have y2 := hbz.x2
        have y3 := hbz.x3
        have y4 := hbz.x4
        have y5 := hbz.x5
        unfold lvA
        have hpp := fun W E h => printC (v := z) hpm W E h (by omega)
        have hcc := fun W E h => checkC z rfl hcm W E h (by omega)
        unfold lvA at hpp hcc
        have HPP := Lib.hid hpp
        have HCC := Lib.hid hcc
        clear hpp hcc hpm hcm hjm
        go_wp2_with fail
        refine (HPP.out _ (E.now hb6.bel) hbz.rd).mono ?_
        rintro e w7 ⟨rfl, hq7⟩
        have hb7 := hb6.now hq7
        have hbz2 := hbz.now hq7
        clear hbz y0 y1 y2 y3 y4 y5
        have y0 := hbz2.x0
        have y1 := hbz2.x1
        have y2 := hbz2.x2
        have y3 := hbz2.x3
        have y4 := hbz2.x4
        have y5 := hbz2.x5
        go_wp2_with fail
        refine (HCC.out _ (E.now hb7.bel) hbz2.rd).mono ?_
        rintro e w8 ⟨rfl, hq8⟩
        have hb8 := hb7.now hq8
        clear hbz2 y0 y1 y2 y3 y4 y5
        go_wp2_with fail
        refine (alive_any _ (E.now hb8.bel)).mono ?_
        rintro e w9 ⟨rfl, hq9⟩
        have hz := hb8.now hq9
        skip
        go_wp2_with fail
        go_ret
        exact ⟨rfl, hz.bel⟩
      · have hfb : (f == 0) = false := by simp [hf0]
        clear hps hf0
        unfold lvA at *
        go_enter Tryd.func3, Tryd.ntmps3
        go_wp2_with fail
        refine (HF.out _ hb0.rd).mono ?_
        rintro e w1 ⟨rfl, hq1⟩
        have hb1 := hb0.now hq1
        clear x0 x1 x2 x3 x4 x5
        have x0 := hb1.x0
        have x1 := hb1.x1
        have x2 := hb1.x2
        have x3 := hb1.x3
        have x4 := hb1.x4
        have x5 := hb1.x5
        go_wp2_with fail
        refine (HPR.out _ (E.now hb1.bel) hb1.rd).mono ?_
        rintro e w2 ⟨rfl, hq2⟩
        have hb2 := hb1.now hq2
        clear x0 x1 x2 x3 x4 x5
        have x0 := hb2.x0
        have x1 := hb2.x1
        have x2 := hb2.x2
        have x3 := hb2.x3
        have x4 := hb2.x4
        have x5 := hb2.x5
        go_wp2_with fail
        refine (HCK.out _ (E.now hb2.bel) hb2.rd).mono ?_
        rintro e w3 ⟨rfl, hq3⟩
        have hb3 := hb2.now hq3
        clear x0 x1 x2 x3 x4 x5
        have x0 := hb3.x0
        have x1 := hb3.x1
        have x2 := hb3.x2
        have x3 := hb3.x3
        have x4 := hb3.x4
        have x5 := hb3.x5
        go_wp2_with fail
        refine (HPT.out _ (E.now hb3.bel)).mono ?_
        rintro e w4 ⟨u, hu, rfl, hur, hq4⟩
        have hal := hq4.alloc hq4.size (.cells #[.string (bs u.l.name), .slice u.A1 u.l.secs.length u.c1, .slice u.A2 u.l.els.length u.c2, .slice u.A3 u.l.jts.length u.c3, .slice u.A4 u.l.sgs.length u.c4, .slice u.A5 u.l.bls.length u.c5] 28)
        have hbu := BxO.new hur
        have HU := Lib.hid hu
        have hb4 := hb3.now hal
        clear hur hu hal
        clear x0 x1 x2 x3 x4 x5
        have x0 := hb4.x0
        have x1 := hb4.x1
        have x2 := hb4.x2
        have x3 := hb4.x3
        have x4 := hb4.x4
        have x5 := hb4.x5
        have y0 := hbu.x0
        have y1 := hbu.x1
        have y2 := hbu.x2
        have y3 := hbu.x3
        have y4 := hbu.x4
        have y5 := hbu.x5
        unfold lvA
        have hsm := sameC (a := u) (b := v) (decide_eq_true HU.out)
        unfold lvA at hsm
        have HSM := Lib.hid hsm
        clear hsm
        go_wp2_with fail
        refine (HSM.out _ hbu.rd hb4.rd).mono ?_
        rintro e w5 ⟨rfl, hq5⟩
        have hb5 := hb4.now hq5
        clear hbu y0 y1 y2 y3 y4 y5
        clear x0 x1 x2 x3 x4 x5
        go_wp2_with fail
        refine (HPS.out _ (E.now hb5.bel)).mono ?_
        rintro e w6 ⟨z, -, rfl, -, hq6⟩
        have hal := hq6.alloc hq6.size (.cells #[.string (bs z.l.name), .slice z.A1 z.l.secs.length z.c1, .slice z.A2 z.l.els.length z.c2, .slice z.A3 z.l.jts.length z.c3, .slice z.A4 z.l.sgs.length z.c4, .slice z.A5 z.l.bls.length z.c5] 28)
        have hb6 := hb5.now hal
        clear hal
        unfold lvA
        go_wp2_with fail
        refine (alive_any _ (E.now hb6.bel)).mono ?_
        rintro e w7 ⟨rfl, hq7⟩
        have hz := hb6.now hq7
        skip
        go_wp2_with fail
        go_ret
        exact ⟨rfl, hz.bel⟩
    · obtain ⟨c, hcc⟩ : ∃ c, chkL v.l = c := ⟨_, rfl⟩
      have hpt := prt_no hcc (by rw [← hcc]; exact hc)
      have hcb : (c == 0) = false := by rw [← hcc]; simpa using hc
      have hcb2 : (c != 0) = true := by rw [← hcc]; simpa using hc
      have HPR := Lib.hid fun W E h => printC hpt W E h (by omega)
      have HCK := Lib.hid fun W E h => checkC v rfl hcc W E h (by omega)
      clear hpt hcc hc hs hv hlong hsl
      by_cases hf0 : f = 0
      · subst hf0
        obtain ⟨hpm, hcm⟩ := prt_par hps
        have hjm := jts_few hcm
        clear hps
        unfold lvA at *
        go_enter Tryd.func3, Tryd.ntmps3
        go_wp2_with fail
        refine (HF.out _ hb0.rd).mono ?_
        rintro e w1 ⟨rfl, hq1⟩
        have hb1 := hb0.now hq1
        clear x0 x1 x2 x3 x4 x5
        have x0 := hb1.x0
        have x1 := hb1.x1
        have x2 := hb1.x2
        have x3 := hb1.x3
        have x4 := hb1.x4
        have x5 := hb1.x5
        go_wp2_with fail
        refine (HPR.out _ (E.now hb1.bel) hb1.rd).mono ?_
        rintro e w2 ⟨rfl, hq2⟩
        have hb2 := hb1.now hq2
        clear x0 x1 x2 x3 x4 x5
        have x0 := hb2.x0
        have x1 := hb2.x1
        have x2 := hb2.x2
        have x3 := hb2.x3
        have x4 := hb2.x4
        have x5 := hb2.x5
        go_wp2_with fail
        refine (HCK.out _ (E.now hb2.bel) hb2.rd).mono ?_
        rintro e w3 ⟨rfl, hq3⟩
        have hb3 := hb2.now hq3
        clear x0 x1 x2 x3 x4 x5
        have x0 := hb3.x0
        have x1 := hb3.x1
        have x2 := hb3.x2
        have x3 := hb3.x3
        have x4 := hb3.x4
        have x5 := hb3.x5
        clear x0 x1 x2 x3 x4 x5
        go_wp2_with fail
        refine (HPS.out _ (E.now hb3.bel)).mono ?_
        rintro e w4 ⟨z, rfl, rfl, hzr, hq4⟩
        have hal := hq4.alloc hq4.size (.cells #[.string (bs z.l.name), .slice z.A1 z.l.secs.length z.c1, .slice z.A2 z.l.els.length z.c2, .slice z.A3 z.l.jts.length z.c3, .slice z.A4 z.l.sgs.length z.c4, .slice z.A5 z.l.bls.length z.c5] 28)
        have hbz := BxO.new hzr
        have hb4 := hb3.now hal
        clear hzr hal
        have y0 := hbz.x0
        have y1 := hbz.x1
        have y2 := hbz.x2
        have y3 := hbz.x3
        have y4 := hbz.x4
        have y5 := hbz.x5
        unfold lvA
        have hpp := fun W E h => printC (v := z) hpm W E h (by omega)
        have hcc := fun W E h => checkC z rfl hcm W E h (by omega)
        unfold lvA at hpp hcc
        have HPP := Lib.hid hpp
        have HCC := Lib.hid hcc
        clear hpp hcc hpm hcm hjm
        go_wp2_with fail
        refine (HPP.out _ (E.now hb4.bel) hbz.rd).mono ?_
        rintro e w5 ⟨rfl, hq5⟩
        have hb5 := hb4.now hq5
        have hbz2 := hbz.now hq5
        clear hbz y0 y1 y2 y3 y4 y5
        have y0 := hbz2.x0
        have y1 := hbz2.x1
        have y2 := hbz2.x2
        have y3 := hbz2.x3
        have y4 := hbz2.x4
        have y5 := hbz2.x5
        go_wp2_with fail
        refine (HCC.out _ (E.now hb5.bel) hbz2.rd).mono ?_
        rintro e w6 ⟨rfl, hq6⟩
        have hb6 := hb5.now hq6
        clear hbz2 y0 y1 y2 y3 y4 y5
        go_wp2_with fail
        refine (alive_any _ (E.now hb6.bel)).mono ?_
        rintro e w7 ⟨rfl, hq7⟩
        have hz := hb6.now hq7
        skip
        go_wp2_with fail
        go_ret
        exact ⟨rfl, hz.bel⟩
      · have hfb : (f == 0) = false := by simp [hf0]
        clear hps hf0
        unfold lvA at *
        go_enter Tryd.func3, Tryd.ntmps3
        go_wp2_with fail
        refine (HF.out _ hb0.rd).mono ?_
        rintro e w1 ⟨rfl, hq1⟩
        have hb1 := hb0.now hq1
        clear x0 x1 x2 x3 x4 x5
        have x0 := hb1.x0
        have x1 := hb1.x1
        have x2 := hb1.x2
        have x3 := hb1.x3
        have x4 := hb1.x4
        have x5 := hb1.x5
        go_wp2_with fail
        refine (HPR.out _ (E.now hb1.bel) hb1.rd).mono ?_
        rintro e w2 ⟨rfl, hq2⟩
        have hb2 := hb1.now hq2
        clear x0 x1 x2 x3 x4 x5
        have x0 := hb2.x0
        have x1 := hb2.x1
        have x2 := hb2.x2
        have x3 := hb2.x3
        have x4 := hb2.x4
        have x5 := hb2.x5
        go_wp2_with fail
        refine (HCK.out _ (E.now hb2.bel) hb2.rd).mono ?_
        rintro e w3 ⟨rfl, hq3⟩
        have hb3 := hb2.now hq3
        clear x0 x1 x2 x3 x4 x5
        have x0 := hb3.x0
        have x1 := hb3.x1
        have x2 := hb3.x2
        have x3 := hb3.x3
        have x4 := hb3.x4
        have x5 := hb3.x5
        clear x0 x1 x2 x3 x4 x5
        go_wp2_with fail
        refine (HPS.out _ (E.now hb3.bel)).mono ?_
        rintro e w4 ⟨z, -, rfl, -, hq4⟩
        have hal := hq4.alloc hq4.size (.cells #[.string (bs z.l.name), .slice z.A1 z.l.secs.length z.c1, .slice z.A2 z.l.els.length z.c2, .slice z.A3 z.l.jts.length z.c3, .slice z.A4 z.l.sgs.length z.c4, .slice z.A5 z.l.bls.length z.c5] 28)
        have hb4 := hb3.now hal
        clear hal
        unfold lvA
        go_wp2_with fail
        refine (alive_any _ (E.now hb4.bel)).mono ?_
        rintro e w5 ⟨rfl, hq5⟩
        have hz := hb4.now hq5
        skip
        go_wp2_with fail
        go_ret
        exact ⟨rfl, hz.bel⟩
end Go.Proofs.YtopoknocfoiiaaaDoor
