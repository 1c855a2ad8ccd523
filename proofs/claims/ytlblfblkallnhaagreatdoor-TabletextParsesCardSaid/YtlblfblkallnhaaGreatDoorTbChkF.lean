/- The walk of table.Check. -/
import Derived.Test.YtlblfblkallnhaaGreatDoorTbChkC
import Derived.Test.YtlblfblkallnhaaGreatDoorTbChkE
namespace Go.Proofs.YtlblfblkallnhaaGreatDoor
set_option linter.unusedVariables false
set_option linter.unusedSimpArgs false
open Go.RowKit
open Go.Maps (Keyed IsMap)
attribute [local go_sem] bs_size bs_get bs_append bs_extract bs_toList
attribute [-go_sem] run_equalIn_agg
theorem rouBC {t : Tab} {b : Bool} (v : TabV) (r : RouV) (h : rouB v.t r.r = b) (w : World) (hr : TvR w v) (hrr : RvR w (Lt w) r) (hl : limB v.t = true) (h3 : r.r.secs.length ≤ 40000) (h6 : r.r.osecs.length ≤ 40000) : Calls Tryz.prog 35 #[tvA v, .agg #[.string (bs r.r.name), .int .i64 r.r.ent, .int .i64 r.r.ext, .slice r.A1 r.r.path.length r.c1, .slice r.A2 r.r.pts.length r.c2, .slice r.A3 r.r.secs.length r.c3, .int .i64 r.r.app, .int .i64 r.r.len, .slice r.A4 r.r.over.length r.c4, .slice r.A5 r.r.opts.length r.c5, .slice r.A6 r.r.osecs.length r.c6, .slice r.A7 r.r.flk.length r.c7, .slice r.A8 r.r.grd.length r.c8, .slice r.A9 r.r.gap.length r.c9]] w fun e w' => e = .returned (.bool b) ∧ Below w.heap.size w w' := by
  unfold limB at hl
  simp only [Bool.and_eq_true, inB_iff] at hl
  exact h ▸ routeRight_any v r w hr hrr hl.2.2.1.1 hl.2.2.1.2 hl.2.2.2.1 hl.2.2.2.2 h3 h6
theorem stsC {b : Bool} (v : TabV) (l : List Stg) (h : stsB v.t l = b) (A : Option Addr) (cap : Nat) (w : World) (hr : TvR w v) (hl : RdS cStg w (Lt w) A l) (hn : l.length ≤ maxLen) : Calls Tryz.prog 36 #[tvA v, .slice A l.length cap] w fun e w' => e = .returned (.bool b) ∧ Below w.heap.size w w' := h ▸ settingsRight_any v l A cap w hr hl hn
theorem agrC {c : Bool} (a b : List Stg) (h : agrB a b = c) (A B : Option Addr) (ca cb : Nat) (w : World) (ha : RdS cStg w (Lt w) A a) (hb : RdS cStg w (Lt w) B b) (la : a.length ≤ maxLen) (lb : b.length ≤ maxLen) : Calls Tryz.prog 37 #[.slice A a.length ca, .slice B b.length cb] w fun e w' => e = .returned (.bool c) ∧ Below w.heap.size w w' := h ▸ agree_any a b A B ca cb w ha hb la lb
theorem ptsC {b : Bool} (v : TabV) (h : ptsB v.t = b) (w : World) (hr : TvR w v) (hs : v.t.nsec ≤ 1000) : Calls Tryz.prog 34 #[tvA v] w fun e w' => e = .returned (.bool b) ∧ Below w.heap.size w w' := h ▸ pointsRight_any v w hr hs
theorem set_no1 {t : Tab} {r : Rou} (h : stsB t r.pts = false) : setB t r = false := by unfold setB; rw [h]; rfl
theorem set_no2 {t : Tab} {r : Rou} (h : stsB t r.opts = false) : setB t r = false := by unfold setB; rw [h]; simp
theorem set_no3 {t : Tab} {r : Rou} (h : stsB t r.flk = false) : setB t r = false := by unfold setB; rw [h]; simp
theorem set_yes {t : Tab} {r : Rou} (h1 : stsB t r.pts = true) (h2 : stsB t r.opts = true) (h3 : stsB t r.flk = true) : setB t r = true := by unfold setB; rw [h1, h2, h3]; rfl
theorem ag_no1 {r : Rou} (h : agrB r.pts r.opts = false) : agB r = false := by unfold agB; rw [h]; rfl
theorem ag_no2 {r : Rou} (h : agrB r.pts r.flk = false) : agB r = false := by unfold agB; rw [h]; simp
theorem ag_no3 {r : Rou} (h : agrB r.opts r.flk = false) : agB r = false := by unfold agB; rw [h]; simp
theorem ag_yes {r : Rou} (h1 : agrB r.pts r.opts = true) (h2 : agrB r.pts r.flk = true) (h3 : agrB r.opts r.flk = true) : agB r = true := by unfold agB; rw [h1, h2, h3]; rfl
theorem lim_no {t : Tab} (h : 48 < t.rts.length ∨ 32 < t.pts.length ∨ inB t.nsec 0 24 = false ∨ inB t.nsig 0 20 = false) : limB t = false := by
  unfold limB
  rcases h with h | h | h | h
  · rw [decide_eq_false (by omega)]; rfl
  · rw [decide_eq_false (show ¬ t.pts.length ≤ 32 by omega)]; simp
  · rw [h]; simp
  · rw [h]; simp
theorem lim_yes {t : Tab} (h : ¬ 48 < t.rts.length) (h2 : ¬ 32 < t.pts.length) (h3 : inB t.nsec 0 24 = true) (h4 : inB t.nsig 0 20 = true) : limB t = true := by
  unfold limB; rw [h3, h4, decide_eq_true (by omega), decide_eq_true (by omega)]; rfl
theorem nm_any {l : List Rou} {k : Nat} (s : List UInt8) : (((l.take k).map Rou.name).map Lit.string).any (fun x => x.sameKey (.string s)) = decide (s ∈ (l.map Rou.name).take k) := by rw [any_str, List.map_take]
theorem dup_at {l : List Rou} {k : Nat} (h : k < l.length) (hx : l[k].name ∈ (l.map Rou.name).take k) : ¬ (l.map Rou.name).Nodup := not_nodup (l := l.map Rou.name) (k := k) (by simpa using h) (by simpa using hx)
theorem nod_at {l : List Rou} {k : Nat} (h : k < l.length) (hn : ((l.map Rou.name).take k).Nodup) (hx : l[k].name ∉ (l.map Rou.name).take k) : ((l.map Rou.name).take (k + 1)).Nodup := nodup_take (l := l.map Rou.name) (by simpa using h) hn (by simpa using hx)
theorem Bx.grow {w0 w w' : World} {v : TabV} (h : Bx w0 w v) (hr : TvR w0 v) {g : Nat} (hg : w.grownBy w' (some g)) (h1 : w0.heap.size ≤ g) (h2 : g ≠ w0.heap.size) : Bx w0 w' v :=
  have hb := h.bel.grown hg h.bel.size (fun k hk => by simp only [Option.some.injEq] at hk; omega)
  ⟨hb, (hg.block _ h.lt (by intro he; simp only [Option.some.injEq] at he; omega)).trans h.blk, hr.now hb⟩
/-- The lists of numbers of a table's routes are not too long. -/
def SecsOk (t : Tab) : Prop := ∀ r ∈ t.rts, r.secs.length ≤ 40000 ∧ r.osecs.length ≤ 40000
set_option maxRecDepth 100000 in
set_option maxHeartbeats 40000000 in
theorem tcheck_any (v : TabV) (w : World) (hr : TvR w v) (hsm : SecsOk v.t) : Calls Tryz.prog 15 #[tvA v] w fun e w' => e = .returned (.int .i64 (chkT v.t)) ∧ Below w.heap.size w w' := by
  have hb0 := Bx.new hr
  have x0 := hb0.x0
  have x1 := hb0.x1
  have x2 := hb0.x2
  have x3 := hb0.x3
  have x4 := hb0.x4
  have hB := hb0.bel
  have HSM := Lib.hid hsm
  clear hsm
  unfold tvA
  by_cases d1 : 48 < v.t.rts.length
  · have HX := Lib.hid (chkT_lim (lim_no (Or.inl d1)))
    have d1i : (48 : Int) < (v.t.rts.length : Int) := by omega
    clear d1
    go_enter Tryz.func15, Tryz.ntmps15
    go_wp2_with fail
    go_ret
    exact ⟨ret_iL HX.out.symm, hB⟩
  by_cases d2 : 32 < v.t.pts.length
  · have HX := Lib.hid (chkT_lim (lim_no (Or.inr (Or.inl d2))))
    have d1i : ¬ (48 : Int) < (v.t.rts.length : Int) := by omega
    have d2i : (32 : Int) < (v.t.pts.length : Int) := by omega
    clear d1 d2
    go_enter Tryz.func15, Tryz.ntmps15
    go_wp2_with fail
    go_ret
    exact ⟨ret_iL HX.out.symm, hB⟩
  have d1i : ¬ (48 : Int) < (v.t.rts.length : Int) := by omega
  have d2i : ¬ (32 : Int) < (v.t.pts.length : Int) := by omega
  cases d3 : inB v.t.nsec 0 24 with
  | false =>
    have HX := Lib.hid (chkT_lim (lim_no (Or.inr (Or.inr (Or.inl d3)))))
    have HC3 := Lib.hid fun W => twithinC (c := 25) d3 W (by omega)
    clear d1 d2 d3
    go_enter Tryz.func15, Tryz.ntmps15
    go_wp2_with fail
    refine (HC3.out _).mono ?_
    rintro e wq ⟨rfl, rfl⟩
    go_wp2_with fail
    go_ret
    exact ⟨ret_iL HX.out.symm, hB⟩
  | true =>
  cases d4 : inB v.t.nsig 0 20 with
  | false =>
    have HX := Lib.hid (chkT_lim (lim_no (Or.inr (Or.inr (Or.inr d4)))))
    have HC3 := Lib.hid fun W => twithinC (c := 25) d3 W (by omega)
    have HC4 := Lib.hid fun W => twithinC (c := 21) d4 W (by omega)
    clear d1 d2 d3 d4
    go_enter Tryz.func15, Tryz.ntmps15
    go_wp2_with fail
    refine (HC3.out _).mono ?_
    rintro e wq ⟨rfl, rfl⟩
    go_wp2_with fail
    refine (HC4.out _).mono ?_
    rintro e wq ⟨rfl, rfl⟩
    go_wp2_with fail
    go_ret
    exact ⟨ret_iL HX.out.symm, hB⟩
  | true =>
  have HLIM := Lib.hid (lim_yes d1 d2 d3 d4)
  have hrl : v.t.rts.length ≤ 48 := by omega
  have hn24 := (inB_iff.1 d3).2
  have HC3 := Lib.hid fun W => twithinC (c := 25) d3 W (by omega)
  have HC4 := Lib.hid fun W => twithinC (c := 21) d4 W (by omega)
  clear d1 d2 d3 d4
  go_enter Tryz.func15, Tryz.ntmps15
  go_wp2_with fail
  refine (HC3.out _).mono ?_
  rintro e wq ⟨rfl, rfl⟩
  go_wp2_with fail
  refine (HC4.out _).mono ?_
  rintro e wq ⟨rfl, rfl⟩
  go_wp2_with fail
  cases e1 : ptsB v.t with
  | false =>
    have HX := Lib.hid (chkT_pts HLIM.out e1)
    refine (ptsC v e1 _ hb0.rd (by omega)).mono ?_
    rintro e w1 ⟨rfl, hq⟩
    have hb1 := (hb0.now hq).bel
    clear x0 x1 x2 x3 x4 hb0 e1
    go_wp2_with fail
    go_ret
    exact ⟨ret_iL HX.out.symm, hb1⟩
  | true =>
  have HPT := Lib.hid e1
  refine (ptsC v e1 _ hb0.rd (by omega)).mono ?_
  rintro e w1 ⟨rfl, hq⟩
  have hb1 := hb0.now hq
  clear x0 x1 x2 x3 x4 hb0 e1 hq hB d1i d2i HC3 HC4
  have x0 := hb1.x0
  go_wp2_with fail
  clear x0
  go_loopw [40] (fun n wr => ∃ k : Nat, k ≤ v.t.rts.length ∧ n = .int .i64 k ∧ Bx w wr v ∧ Hid ((v.t.rts.take k).all (rouB v.t) = true)) (fun n _ => v.t.rts.length - (intOf n).toNat)
  case atStart => exact ⟨0, Nat.zero_le _, rfl, hb1, Lib.hid (by simp)⟩
  case round =>
    clear hb1
    obtain ⟨k, hk, rfl, hb, HK⟩ := hrel
    by_cases hlt : k < v.t.rts.length
    · have hki : (k : Int) < (v.t.rts.length : Int) := by omega
      obtain ⟨b, off, r, hA, lb, hre, hrv, y0, y1, y2, y3, y4, y5, y6, y7, y8, y9, y10, y11, y12, y13⟩ := hb.rd.r1.elR hlt
      have hrl3 := HSM.out _ (List.getElem_mem hlt)
      rw [← hre] at hrl3
      have hre' : v.t.rts[k] = r.r := hre.symm
      have hb2 := hb.alloc (.cells #[.string (bs r.r.name), .int .i64 r.r.ent, .int .i64 r.r.ext, .slice r.A1 r.r.path.length r.c1, .slice r.A2 r.r.pts.length r.c2, .slice r.A3 r.r.secs.length r.c3, .int .i64 r.r.app, .int .i64 r.r.len, .slice r.A4 r.r.over.length r.c4, .slice r.A5 r.r.opts.length r.c5, .slice r.A6 r.r.osecs.length r.c6, .slice r.A7 r.r.flk.length r.c7, .slice r.A8 r.r.grd.length r.c8, .slice r.A9 r.r.gap.length r.c9] 41)
      have hRB := RBx.new hrv
      have x0 := hb.x0
      rw [hA] at x0
      cases hc : rouB v.t r.r with
      | false =>
        have HX := Lib.hid (chkT_rou HLIM.out HPT.out (all_no2 hlt (by rw [hre']; exact hc)))
        have HC := Lib.hid fun W hw hw2 => rouBC (t := v.t) v r hc W hw hw2 HLIM.out hrl3.1 hrl3.2
        clear hc HK hre hre' hrl3
        have x0 := hb2.x0
        have x1 := hb2.x1
        have x2 := hb2.x2
        have x3 := hb2.x3
        have x4 := hb2.x4
        rw [hA] at x0 ⊢
        have HB2 := Lib.hid hb2
        unfold tvA at HC
        rw [hA] at HC
        go_wp2_with fail
        refine (HC.out _ HB2.out.rd hRB.rd).mono ?_
        rintro e w3 ⟨rfl, hq⟩
        have hb3 := (HB2.out.now hq).bel
        clear hb hb2 hRB
        go_wp2_with fail
        go_ret
        exact ⟨ret_iL HX.out.symm, hb3⟩
      | true =>
        have HK2 := Lib.hid (all_take2 hlt HK.out (by rw [hre']; exact hc))
        have HC := Lib.hid fun W hw hw2 => rouBC (t := v.t) v r hc W hw hw2 HLIM.out hrl3.1 hrl3.2
        clear hc HK hre hre' hrl3
        have x0 := hb2.x0
        have x1 := hb2.x1
        have x2 := hb2.x2
        have x3 := hb2.x3
        have x4 := hb2.x4
        rw [hA] at x0 ⊢
        have HB2 := Lib.hid hb2
        unfold tvA at HC
        rw [hA] at HC
        go_wp2_with fail
        refine (HC.out _ HB2.out.rd hRB.rd).mono ?_
        rintro e w3 ⟨rfl, hq⟩
        have hb3 := HB2.out.now hq
        clear hb hb2 hRB x0 x1 x2 x3 x4
        go_wp2_with fail
        go_roundw
        case rel => exact ⟨k + 1, by omega, by go_num, hb3, HK2⟩
        case measure => simp [intOf]; omega
    · have HR1 := Lib.hid (all_end2 hlt HK.out)
      clear HK
      have x0 := hb.x0
      go_wp2_with fail
      clear x0
      go_loopw [52] (fun n wr => ∃ k : Nat, k ≤ v.t.rts.length ∧ n = .int .i64 k ∧ Bx w wr v ∧ Hid ((v.t.rts.take k).all (setB v.t) = true)) (fun n _ => v.t.rts.length - (intOf n).toNat)
      case atStart => exact ⟨0, Nat.zero_le _, rfl, hb, Lib.hid (by simp)⟩
      case round =>
        clear hb
        obtain ⟨k, hk, rfl, hb, HK⟩ := hrel
        by_cases hlt : k < v.t.rts.length
        · have hki : (k : Int) < (v.t.rts.length : Int) := by omega
          obtain ⟨b, off, r, hA, lb, hre, hrv, y0, y1, y2, y3, y4, y5, y6, y7, y8, y9, y10, y11, y12, y13⟩ := hb.rd.r1.elR hlt
          have hrl3 := HSM.out _ (List.getElem_mem hlt)
          rw [← hre] at hrl3
          have hre' : v.t.rts[k] = r.r := hre.symm
          have hb2 := hb.alloc (.cells #[.string (bs r.r.name), .int .i64 r.r.ent, .int .i64 r.r.ext, .slice r.A1 r.r.path.length r.c1, .slice r.A2 r.r.pts.length r.c2, .slice r.A3 r.r.secs.length r.c3, .int .i64 r.r.app, .int .i64 r.r.len, .slice r.A4 r.r.over.length r.c4, .slice r.A5 r.r.opts.length r.c5, .slice r.A6 r.r.osecs.length r.c6, .slice r.A7 r.r.flk.length r.c7, .slice r.A8 r.r.grd.length r.c8, .slice r.A9 r.r.gap.length r.c9] 41)
          have hRB := RBx.new hrv
          have x0 := hb.x0
          rw [hA] at x0
          have HRE := Lib.hid hre'
          have HKK := Lib.hid HK.out
          clear hre hre' hrl3 HK
          cases s0 : stsB v.t r.r.pts with
          | false =>
            have HX := Lib.hid (chkT_set HLIM.out HPT.out (all_no2 hlt (by rw [HRE.out]; exact set_no1 s0)))
            have HC := Lib.hid (stsC v r.r.pts s0 r.A2 r.c2 _ hb2.rd hRB.rd.r2 hRB.rd.o.n2.1)
            unfold tvA at HC
            clear s0
            have x0 := hb2.x0
            have x1 := hb2.x1
            have x2 := hb2.x2
            have x3 := hb2.x3
            have x4 := hb2.x4
            have z4 := hRB.x4
            have HBB := Lib.hid hb2
            have HRR := Lib.hid hRB
            rw [hA] at x0 HC ⊢
            clear hb2 hRB
            go_wp2_with fail
            refine HC.out.mono ?_
            rintro e w3 ⟨rfl, hq⟩
            have hb3 := HBB.out.now hq
            have hR3 := HRR.out.now hq
            clear HC HBB HRR hq z4 x0 x1 x2 x3 x4
            go_wp2_with fail
            go_ret
            exact ⟨ret_iL HX.out.symm, hb3.bel⟩
          | true =>
            have S0 := Lib.hid s0
            have HC := Lib.hid (stsC v r.r.pts s0 r.A2 r.c2 _ hb2.rd hRB.rd.r2 hRB.rd.o.n2.1)
            unfold tvA at HC
            clear s0
            have x0 := hb2.x0
            have x1 := hb2.x1
            have x2 := hb2.x2
            have x3 := hb2.x3
            have x4 := hb2.x4
            have z4 := hRB.x4
            have HBB := Lib.hid hb2
            have HRR := Lib.hid hRB
            rw [hA] at x0 HC ⊢
            clear hb2 hRB
            go_wp2_with fail
            refine HC.out.mono ?_
            rintro e w3 ⟨rfl, hq⟩
            have hb3 := HBB.out.now hq
            have hR3 := HRR.out.now hq
            clear HC HBB HRR hq z4 x0 x1 x2 x3 x4
            cases s1 : stsB v.t r.r.opts with
            | false =>
              have HX := Lib.hid (chkT_set HLIM.out HPT.out (all_no2 hlt (by rw [HRE.out]; exact set_no2 s1)))
              have HC := Lib.hid (stsC v r.r.opts s1 r.A5 r.c5 w3 hb3.rd hR3.rd.r5 hR3.rd.o.n5.1)
              unfold tvA at HC
              clear s1
              have x0 := hb3.x0
              have x1 := hb3.x1
              have x2 := hb3.x2
              have x3 := hb3.x3
              have x4 := hb3.x4
              have z9 := hR3.x9
              have HBB := Lib.hid hb3
              have HRR := Lib.hid hR3
              rw [hA] at x0 HC
              clear hb3 hR3
              go_wp2_with fail
              refine HC.out.mono ?_
              rintro e w4 ⟨rfl, hq⟩
              have hb4 := HBB.out.now hq
              have hR4 := HRR.out.now hq
              clear HC HBB HRR hq z9 x0 x1 x2 x3 x4
              go_wp2_with fail
              go_ret
              exact ⟨ret_iL HX.out.symm, hb4.bel⟩
            | true =>
              have S1 := Lib.hid s1
              have HC := Lib.hid (stsC v r.r.opts s1 r.A5 r.c5 w3 hb3.rd hR3.rd.r5 hR3.rd.o.n5.1)
              unfold tvA at HC
              clear s1
              have x0 := hb3.x0
              have x1 := hb3.x1
              have x2 := hb3.x2
              have x3 := hb3.x3
              have x4 := hb3.x4
              have z9 := hR3.x9
              have HBB := Lib.hid hb3
              have HRR := Lib.hid hR3
              rw [hA] at x0 HC
              clear hb3 hR3
              go_wp2_with fail
              refine HC.out.mono ?_
              rintro e w4 ⟨rfl, hq⟩
              have hb4 := HBB.out.now hq
              have hR4 := HRR.out.now hq
              clear HC HBB HRR hq z9 x0 x1 x2 x3 x4
              cases s2 : stsB v.t r.r.flk with
              | false =>
                have HX := Lib.hid (chkT_set HLIM.out HPT.out (all_no2 hlt (by rw [HRE.out]; exact set_no3 s2)))
                have HC := Lib.hid (stsC v r.r.flk s2 r.A7 r.c7 w4 hb4.rd hR4.rd.r7 hR4.rd.o.n7.1)
                unfold tvA at HC
                clear s2
                have x0 := hb4.x0
                have x1 := hb4.x1
                have x2 := hb4.x2
                have x3 := hb4.x3
                have x4 := hb4.x4
                have z11 := hR4.x11
                have HBB := Lib.hid hb4
                have HRR := Lib.hid hR4
                rw [hA] at x0 HC
                clear hb4 hR4
                go_wp2_with fail
                refine HC.out.mono ?_
                rintro e w5 ⟨rfl, hq⟩
                have hb5 := HBB.out.now hq
                have hR5 := HRR.out.now hq
                clear HC HBB HRR hq z11 x0 x1 x2 x3 x4
                go_wp2_with fail
                go_ret
                exact ⟨ret_iL HX.out.symm, hb5.bel⟩
              | true =>
                have HK2 := Lib.hid (all_take2 hlt HKK.out (by rw [HRE.out]; exact set_yes S0.out S1.out s2))
                have HC := Lib.hid (stsC v r.r.flk s2 r.A7 r.c7 w4 hb4.rd hR4.rd.r7 hR4.rd.o.n7.1)
                unfold tvA at HC
                clear s2
                have x0 := hb4.x0
                have x1 := hb4.x1
                have x2 := hb4.x2
                have x3 := hb4.x3
                have x4 := hb4.x4
                have z11 := hR4.x11
                have HBB := Lib.hid hb4
                have HRR := Lib.hid hR4
                rw [hA] at x0 HC
                clear hb4 hR4
                go_wp2_with fail
                refine HC.out.mono ?_
                rintro e w5 ⟨rfl, hq⟩
                have hb5 := HBB.out.now hq
                have hR5 := HRR.out.now hq
                clear HC HBB HRR hq z11 x0 x1 x2 x3 x4
                go_wp2_with fail
                go_roundw
                case rel => exact ⟨k + 1, by omega, by go_num, hb5, HK2⟩
                case measure => simp [intOf]; omega
        · have HR2 := Lib.hid (all_end2 hlt HK.out)
          clear HK
          have x0 := hb.x0
          go_wp2_with fail
          clear x0
          go_loopw [79] (fun n wr => ∃ k : Nat, k ≤ v.t.rts.length ∧ n = .int .i64 k ∧ Bx w wr v ∧ Hid ((v.t.rts.take k).all agB = true)) (fun n _ => v.t.rts.length - (intOf n).toNat)
          case atStart => exact ⟨0, Nat.zero_le _, rfl, hb, Lib.hid (by simp)⟩
          case round =>
            clear hb
            obtain ⟨k, hk, rfl, hb, HK⟩ := hrel
            by_cases hlt : k < v.t.rts.length
            · have hki : (k : Int) < (v.t.rts.length : Int) := by omega
              obtain ⟨b, off, r, hA, lb, hre, hrv, y0, y1, y2, y3, y4, y5, y6, y7, y8, y9, y10, y11, y12, y13⟩ := hb.rd.r1.elR hlt
              have hrl3 := HSM.out _ (List.getElem_mem hlt)
              rw [← hre] at hrl3
              have hre' : v.t.rts[k] = r.r := hre.symm
              have hb2 := hb.alloc (.cells #[.string (bs r.r.name), .int .i64 r.r.ent, .int .i64 r.r.ext, .slice r.A1 r.r.path.length r.c1, .slice r.A2 r.r.pts.length r.c2, .slice r.A3 r.r.secs.length r.c3, .int .i64 r.r.app, .int .i64 r.r.len, .slice r.A4 r.r.over.length r.c4, .slice r.A5 r.r.opts.length r.c5, .slice r.A6 r.r.osecs.length r.c6, .slice r.A7 r.r.flk.length r.c7, .slice r.A8 r.r.grd.length r.c8, .slice r.A9 r.r.gap.length r.c9] 41)
              have hRB := RBx.new hrv
              have x0 := hb.x0
              rw [hA] at x0
              have HRE := Lib.hid hre'
              have HKK := Lib.hid HK.out
              clear hre hre' hrl3 HK
              cases s0 : agrB r.r.pts r.r.opts with
              | false =>
                have HX := Lib.hid (chkT_agr HLIM.out HPT.out HR1.out HR2.out (all_no2 hlt (by rw [HRE.out]; exact ag_no1 s0)))
                have HC := Lib.hid (agrC r.r.pts r.r.opts s0 r.A2 r.A5 r.c2 r.c5 _ hRB.rd.r2 hRB.rd.r5 hRB.rd.o.n2.1 hRB.rd.o.n5.1)
                clear s0
                have z4 := hRB.x4
                have z9 := hRB.x9
                have HBB := Lib.hid hb2
                have HRR := Lib.hid hRB
                rw [hA]
                clear hb2 hRB
                go_wp2_with fail
                refine HC.out.mono ?_
                rintro e w3 ⟨rfl, hq⟩
                have hb3 := HBB.out.now hq
                have hR3 := HRR.out.now hq
                clear HC HBB HRR hq z4 z9 x0
                go_wp2_with fail
                go_ret
                exact ⟨ret_iL HX.out.symm, hb3.bel⟩
              | true =>
                have S0 := Lib.hid s0
                have HC := Lib.hid (agrC r.r.pts r.r.opts s0 r.A2 r.A5 r.c2 r.c5 _ hRB.rd.r2 hRB.rd.r5 hRB.rd.o.n2.1 hRB.rd.o.n5.1)
                clear s0
                have z4 := hRB.x4
                have z9 := hRB.x9
                have HBB := Lib.hid hb2
                have HRR := Lib.hid hRB
                rw [hA]
                clear hb2 hRB
                go_wp2_with fail
                refine HC.out.mono ?_
                rintro e w3 ⟨rfl, hq⟩
                have hb3 := HBB.out.now hq
                have hR3 := HRR.out.now hq
                clear HC HBB HRR hq z4 z9 x0
                cases s1 : agrB r.r.pts r.r.flk with
                | false =>
                  have HX := Lib.hid (chkT_agr HLIM.out HPT.out HR1.out HR2.out (all_no2 hlt (by rw [HRE.out]; exact ag_no2 s1)))
                  have HC := Lib.hid (agrC r.r.pts r.r.flk s1 r.A2 r.A7 r.c2 r.c7 w3 hR3.rd.r2 hR3.rd.r7 hR3.rd.o.n2.1 hR3.rd.o.n7.1)
                  clear s1
                  have z4 := hR3.x4
                  have z11 := hR3.x11
                  have HBB := Lib.hid hb3
                  have HRR := Lib.hid hR3
                  clear hb3 hR3
                  go_wp2_with fail
                  refine HC.out.mono ?_
                  rintro e w4 ⟨rfl, hq⟩
                  have hb4 := HBB.out.now hq
                  have hR4 := HRR.out.now hq
                  clear HC HBB HRR hq z4 z11
                  go_wp2_with fail
                  go_ret
                  exact ⟨ret_iL HX.out.symm, hb4.bel⟩
                | true =>
                  have S1 := Lib.hid s1
                  have HC := Lib.hid (agrC r.r.pts r.r.flk s1 r.A2 r.A7 r.c2 r.c7 w3 hR3.rd.r2 hR3.rd.r7 hR3.rd.o.n2.1 hR3.rd.o.n7.1)
                  clear s1
                  have z4 := hR3.x4
                  have z11 := hR3.x11
                  have HBB := Lib.hid hb3
                  have HRR := Lib.hid hR3
                  clear hb3 hR3
                  go_wp2_with fail
                  refine HC.out.mono ?_
                  rintro e w4 ⟨rfl, hq⟩
                  have hb4 := HBB.out.now hq
                  have hR4 := HRR.out.now hq
                  clear HC HBB HRR hq z4 z11
                  cases s2 : agrB r.r.opts r.r.flk with
                  | false =>
                    have HX := Lib.hid (chkT_agr HLIM.out HPT.out HR1.out HR2.out (all_no2 hlt (by rw [HRE.out]; exact ag_no3 s2)))
                    have HC := Lib.hid (agrC r.r.opts r.r.flk s2 r.A5 r.A7 r.c5 r.c7 w4 hR4.rd.r5 hR4.rd.r7 hR4.rd.o.n5.1 hR4.rd.o.n7.1)
                    clear s2
                    have z9 := hR4.x9
                    have z11 := hR4.x11
                    have HBB := Lib.hid hb4
                    have HRR := Lib.hid hR4
                    clear hb4 hR4
                    go_wp2_with fail
                    refine HC.out.mono ?_
                    rintro e w5 ⟨rfl, hq⟩
                    have hb5 := HBB.out.now hq
                    have hR5 := HRR.out.now hq
                    clear HC HBB HRR hq z9 z11
                    go_wp2_with fail
                    go_ret
                    exact ⟨ret_iL HX.out.symm, hb5.bel⟩
                  | true =>
                    have HK2 := Lib.hid (all_take2 hlt HKK.out (by rw [HRE.out]; exact ag_yes S0.out S1.out s2))
                    have HC := Lib.hid (agrC r.r.opts r.r.flk s2 r.A5 r.A7 r.c5 r.c7 w4 hR4.rd.r5 hR4.rd.r7 hR4.rd.o.n5.1 hR4.rd.o.n7.1)
                    clear s2
                    have z9 := hR4.x9
                    have z11 := hR4.x11
                    have HBB := Lib.hid hb4
                    have HRR := Lib.hid hR4
                    clear hb4 hR4
                    go_wp2_with fail
                    refine HC.out.mono ?_
                    rintro e w5 ⟨rfl, hq⟩
                    have hb5 := HBB.out.now hq
                    have hR5 := HRR.out.now hq
                    clear HC HBB HRR hq z9 z11
                    go_wp2_with fail
                    go_roundw
                    case rel => exact ⟨k + 1, by omega, by go_num, hb5, HK2⟩
                    case measure => simp [intOf]; omega
            · have HR3 := Lib.hid (all_end2 hlt HK.out)
              clear HK
              have x0 := hb.x0
              have hst := SetW.made wr Tryz.prog 9 4 _ rfl
              have hb1 := hb.alloc (.map #[] 0)
              have hgm := hb.lt
              have hmm := @run_makeMap Tryz.prog
              go_wp2_with fail
              clear x0 hb hmm
              generalize wr.alloc (.map #[] 0) = W9 at *
              generalize wr.heap.size = gm at *
              go_loopw [110] (fun n wr => ∃ k : Nat, k ≤ v.t.rts.length ∧ n = .int .i64 k ∧ Bx w wr v ∧ SetW Tryz.prog 9 4 wr gm k (((v.t.rts.take k).map Rou.name).map Lit.string) ∧ Hid (((v.t.rts.map Rou.name).take k).Nodup)) (fun n _ => v.t.rts.length - (intOf n).toNat)
              case atStart => exact ⟨0, Nat.zero_le _, rfl, hb1, hst, Lib.hid (by simp)⟩
              case round =>
                clear hb1 hst
                obtain ⟨k, hk, rfl, hb, hst, HK⟩ := hrel
                by_cases hlt : k < v.t.rts.length
                · have hki : (k : Int) < (v.t.rts.length : Int) := by omega
                  obtain ⟨b, off, r, hA, lb, hre, hrv, y0, y1, y2, y3, y4, y5, y6, y7, y8, y9, y10, y11, y12, y13⟩ := hb.rd.r1.elR hlt
                  have hrl3 := HSM.out _ (List.getElem_mem hlt)
                  rw [← hre] at hrl3
                  have hre' : v.t.rts[k] = r.r := hre.symm
                  have hb2 := hb.alloc (.cells #[.string (bs r.r.name), .int .i64 r.r.ent, .int .i64 r.r.ext, .slice r.A1 r.r.path.length r.c1, .slice r.A2 r.r.pts.length r.c2, .slice r.A3 r.r.secs.length r.c3, .int .i64 r.r.app, .int .i64 r.r.len, .slice r.A4 r.r.over.length r.c4, .slice r.A5 r.r.opts.length r.c5, .slice r.A6 r.r.osecs.length r.c6, .slice r.A7 r.r.flk.length r.c7, .slice r.A8 r.r.grd.length r.c8, .slice r.A9 r.r.gap.length r.c9] 41)
                  have hRB := RBx.new hrv
                  have x0 := hb.x0
                  rw [hA] at x0
                  have hnl := hrv.o.nm
                  have hkey := Lib.hid (str_key r.r.name hnl)
                  have hst2 := hst.alloc (.cells #[.string (bs r.r.name), .int .i64 r.r.ent, .int .i64 r.r.ext, .slice r.A1 r.r.path.length r.c1, .slice r.A2 r.r.pts.length r.c2, .slice r.A3 r.r.secs.length r.c3, .int .i64 r.r.app, .int .i64 r.r.len, .slice r.A4 r.r.over.length r.c4, .slice r.A5 r.r.opts.length r.c5, .slice r.A6 r.r.osecs.length r.c6, .slice r.A7 r.r.flk.length r.c7, .slice r.A8 r.r.grd.length r.c8, .slice r.A9 r.r.gap.length r.c9] 41)
                  have hany := nm_any (l := v.t.rts) (k := k) r.r.name
                  have z0 := hRB.x0
                  cases hd : decide (r.r.name ∈ (v.t.rts.map Rou.name).take k) with
                  | true =>
                    have HX := Lib.hid (chkT_dup HLIM.out HPT.out HR1.out HR2.out HR3.out (dup_at hlt (by rw [hre']; exact of_decide_eq_true hd)))
                    have HAN := Lib.hid (hany.trans hd)
                    have hB := hb2.bel
                    clear hd hany HK hre hre' hrl3 hRB hb2
                    rw [hA]
                    generalize ((v.t.rts.take k).map Rou.name).map Lit.string = ks at *
                    go_wp2_with (at_lookup; go_loud (refine wpList_look_setB _ rfl _ _ 67 rfl 9 4 strKey Tryz.underlying67 Tryz.underlying4 (zeroBool _) gm k ks rfl hst2 _ _ rfl hkey.out true HAN.out ?_))
                    go_ret
                    exact ⟨ret_iL HX.out.symm, by first | exact hB | (rw [hA]; exact hB)⟩
                  | false =>
                    have HT := Lib.hid (nod_at hlt HK.out (by rw [hre']; exact of_decide_eq_false hd))
                    have HAN := Lib.hid (hany.trans hd)
                    have HKS : Hid (((v.t.rts.take (k + 1)).map Rou.name).map Lit.string = ((v.t.rts.take k).map Rou.name).map Lit.string ++ [.string r.r.name]) := Lib.hid (by rw [List.take_succ_eq_append_getElem hlt, List.map_append, List.map_append, hre']; rfl)
                    have HB2 := Lib.hid hb2
                    have hgk : gm ≠ w.heap.size := by omega
                    have hgw : w.heap.size ≤ gm := by omega
                    clear hd hany HK hre hre' hrl3 hRB hb2
                    have HA := Lib.hid hA
                    rw [hA]
                    generalize ((v.t.rts.take k).map Rou.name).map Lit.string = ks at *
                    go_wp2_with (first | (at_lookup; go_loud (refine wpList_look_setB _ rfl _ _ 67 rfl 9 4 strKey Tryz.underlying67 Tryz.underlying4 (zeroBool _) gm k ks rfl hst2 _ _ rfl hkey.out false HAN.out ?_)) | (at_mapUpdate; go_loud (refine wpList_put_set _ rfl _ _ _ 67 rfl 9 4 strKey Tryz.underlying67 Tryz.underlying4 gm k ks rfl hst2 (by unfold maxLen; omega) _ _ rfl rfl hkey.out ?_); intro w6 hst6 hgr6))
                    go_roundw
                    case rel => exact ⟨k + 1, by omega, by go_num, HB2.out.grow hr hgr6 hgw hgk, by rw [HKS.out]; exact hst6, HT⟩
                    case measure => simp [intOf]; omega
                · have HX := Lib.hid (chkT_all HLIM.out HPT.out HR1.out HR2.out HR3.out (by have h1 := HK.out; rwa [List.take_of_length_le (by simp; omega)] at h1))
                  have hB := hb.bel
                  go_wp2_with fail
                  go_ret
                  exact ⟨ret_iL HX.out.symm, hB⟩
end Go.Proofs.YtlblfblkallnhaaGreatDoor
