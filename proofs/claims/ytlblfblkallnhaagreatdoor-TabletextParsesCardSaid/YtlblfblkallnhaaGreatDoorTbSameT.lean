/- The walks of the reference's Same on tables, and of Few. -/
import Derived.Test.YtlblfblkallnhaaGreatDoorTbSame
namespace Go.Proofs.YtlblfblkallnhaaGreatDoor
set_option linter.unusedVariables false
set_option linter.unusedSimpArgs false
open Go.RowKit
attribute [local go_sem] bs_size bs_get bs_append bs_extract bs_toList
attribute [-go_sem] run_equalIn_agg
/-- Two tables boxed. -/
structure T2 (w0 : World) (a b : TabV) (w : World) : Prop where
  bel : Below w0.heap.size w0 w
  ba : Blk w w0.heap.size 25 #[.slice a.A1 a.t.rts.length a.c1, .slice a.A2 a.t.pts.length a.c2, .slice a.A3 a.t.homes.length a.c3, .int .i64 a.t.nsec, .int .i64 a.t.nsig]
  bb : Blk w (w0.heap.size + 1) 25 #[.slice b.A1 b.t.rts.length b.c1, .slice b.A2 b.t.pts.length b.c2, .slice b.A3 b.t.homes.length b.c3, .int .i64 b.t.nsec, .int .i64 b.t.nsig]
  ra : TvR w a
  rb : TvR w b
theorem T2.now {w0 w w' : World} {a b : TabV} (h : T2 w0 a b w) (hb : Below w.heap.size w w') : T2 w0 a b w' := ⟨bel_then h.bel h.bel.size hb, h.ba.now hb, h.bb.now hb, h.ra.now hb, h.rb.now hb⟩
theorem T2.drew {w0 w : World} {a b : TabV} (h : T2 w0 a b w) : T2 w0 a b w.drew := h.now (Below.refl _ _).drew
theorem T2.new {w : World} {a b : TabV} (ha : TvR w a) (hb : TvR w b) : T2 w a b ((w.alloc (.cells #[.slice a.A1 a.t.rts.length a.c1, .slice a.A2 a.t.pts.length a.c2, .slice a.A3 a.t.homes.length a.c3, .int .i64 a.t.nsec, .int .i64 a.t.nsig] 25)).alloc (.cells #[.slice b.A1 b.t.rts.length b.c1, .slice b.A2 b.t.pts.length b.c2, .slice b.A3 b.t.homes.length b.c3, .int .i64 b.t.nsec, .int .i64 b.t.nsig] 25)) := by
  have h1 := (Below.refl w.heap.size w).alloc (Nat.le_refl _) (.cells #[.slice a.A1 a.t.rts.length a.c1, .slice a.A2 a.t.pts.length a.c2, .slice a.A3 a.t.homes.length a.c3, .int .i64 a.t.nsec, .int .i64 a.t.nsig] 25)
  have h2 := h1.alloc h1.size (.cells #[.slice b.A1 b.t.rts.length b.c1, .slice b.A2 b.t.pts.length b.c2, .slice b.A3 b.t.homes.length b.c3, .int .i64 b.t.nsec, .int .i64 b.t.nsig] 25)
  exact ⟨h2, (Blk.new w _ _ _ rfl).alloc _, Blk.new _ _ _ _ (by simp), ha.now h2, hb.now h2⟩
theorem tab_eq {a b : Tab} (h1 : a.rts = b.rts) (h2 : a.pts = b.pts) (h3 : a.homes = b.homes) (h4 : a.nsec = b.nsec) (h5 : a.nsig = b.nsig) : decide (a = b) = true := by
  cases a; cases b
  simp only at *
  subst h1 h2 h3 h4 h5
  simp
theorem cell_now {w w' : World} {p : Addr} {u : Value} (h : w.cell? p = some u) (hb : Below w.heap.size w w') : w'.cell? p = some u := (hb.cell (cell_lt h)).trans h
set_option maxRecDepth 100000 in
set_option maxHeartbeats 16000000 in
theorem sameT_any (a b : TabV) (w : World) (ha : TvR w a) (hb : TvR w b) (hla : a.t.rts.length ≤ 100000) : Calls Tryz.prog 14 #[tvA a, tvA b] w fun e w' => e = .returned (.bool (decide (a.t = b.t))) ∧ Below w.heap.size w w' := by
  have h := T2.new ha hb
  clear ha hb
  unfold tvA
  have x0 := h.ba.cell 0
  have x1 := h.ba.cell 1
  have y0 := h.bb.cell 0
  have y1 := h.bb.cell 1
  simp only [List.getElem?_toArray, List.getElem?_cons_zero, List.getElem?_cons_succ] at x0 y0 x1 y1
  by_cases e0 : a.t.rts.length = b.t.rts.length
  case neg =>
    have HX : Hid (decide (a.t = b.t) = false) := Lib.hid (decide_eq_false fun e => e0 (by rw [e]))
    have t0 : ((a.t.rts.length : Int) != (b.t.rts.length : Int)) = true := by rw [bne_iff_ne]; omega
    have hbb := h.bel
    clear h e0
    go_enter Tryz.func14, Tryz.ntmps14
    go_wp2_with fail
    go_ret
    exact ⟨ret_b HX.out.symm, hbb⟩
  have t0 : ((a.t.rts.length : Int) != (b.t.rts.length : Int)) = false := by rw [bne_eq_false_iff_eq]; omega
  have HLR := Lib.hid e0
  clear e0
  cases s0 : decide (a.t.pts = b.t.pts) with
  | false =>
    have HX : Hid (decide (a.t = b.t) = false) := Lib.hid (decide_eq_false fun e => of_decide_eq_false s0 (by rw [e]))
    have HC := Lib.hid fun W (hh : T2 w a b W) => s7int_C a.t.pts b.t.pts s0 a.A2 b.A2 a.c2 b.c2 W hh.ra.r2 hh.rb.r2 hh.ra.n2.1 hh.rb.n2.1
    have HH := Lib.hid h
    clear s0 h
    go_enter Tryz.func14, Tryz.ntmps14
    go_wp2_with fail
    refine (HC.out _ HH.out).mono ?_
    rintro e w1 ⟨rfl, hq⟩
    have g1 := HH.out.now hq
    clear hq HH HC x0 y0 x1 y1
    go_wp2_with fail
    go_ret
    exact ⟨ret_b HX.out.symm, g1.bel⟩
  | true =>
    have S0 := Lib.hid (of_decide_eq_true s0)
    have HC := Lib.hid fun W (hh : T2 w a b W) => s7int_C a.t.pts b.t.pts s0 a.A2 b.A2 a.c2 b.c2 W hh.ra.r2 hh.rb.r2 hh.ra.n2.1 hh.rb.n2.1
    have HH := Lib.hid h
    clear s0 h
    go_enter Tryz.func14, Tryz.ntmps14
    go_wp2_with fail
    refine (HC.out _ HH.out).mono ?_
    rintro e w1 ⟨rfl, hq⟩
    have g1 := HH.out.now hq
    clear hq HH HC x0 y0 x1 y1
    cases s1 : decide (a.t.homes = b.t.homes) with
    | false =>
      have HX : Hid (decide (a.t = b.t) = false) := Lib.hid (decide_eq_false fun e => of_decide_eq_false s1 (by rw [e]))
      have HC := Lib.hid (s7int_C a.t.homes b.t.homes s1 a.A3 b.A3 a.c3 b.c3 _ g1.ra.r3 g1.rb.r3 g1.ra.n3.1 g1.rb.n3.1)
      have x2 := g1.ba.cell 2
      have y2 := g1.bb.cell 2
      simp only [List.getElem?_toArray, List.getElem?_cons_zero, List.getElem?_cons_succ] at x2 y2
      have HH := Lib.hid g1
      clear s1 g1
      go_wp2_with fail
      refine HC.out.mono ?_
      rintro e w2 ⟨rfl, hq⟩
      have g2 := HH.out.now hq
      clear hq HH HC x2 y2
      go_wp2_with fail
      go_ret
      exact ⟨ret_b HX.out.symm, g2.bel⟩
    | true =>
      have S1 := Lib.hid (of_decide_eq_true s1)
      have HC := Lib.hid (s7int_C a.t.homes b.t.homes s1 a.A3 b.A3 a.c3 b.c3 _ g1.ra.r3 g1.rb.r3 g1.ra.n3.1 g1.rb.n3.1)
      have x2 := g1.ba.cell 2
      have y2 := g1.bb.cell 2
      simp only [List.getElem?_toArray, List.getElem?_cons_zero, List.getElem?_cons_succ] at x2 y2
      have HH := Lib.hid g1
      clear s1 g1
      go_wp2_with fail
      refine HC.out.mono ?_
      rintro e w2 ⟨rfl, hq⟩
      have g2 := HH.out.now hq
      clear hq HH HC x2 y2
      have x3 := g2.ba.cell 3
      have x4 := g2.ba.cell 4
      have y3 := g2.bb.cell 3
      have y4 := g2.bb.cell 4
      simp only [List.getElem?_toArray, List.getElem?_cons_zero, List.getElem?_cons_succ] at x3 y3 x4 y4
      by_cases e3 : a.t.nsec = b.t.nsec
      case neg =>
        have HX : Hid (decide (a.t = b.t) = false) := Lib.hid (decide_eq_false fun e => e3 (by rw [e]))
        have t3 : (a.t.nsec != b.t.nsec) = true := by simp [e3]
        have hbb := g2.bel
        clear g2 e3
        go_wp2_with fail
        go_ret
        exact ⟨ret_b HX.out.symm, hbb⟩
      have t3 : (a.t.nsec != b.t.nsec) = false := by simp [e3]
      have E3 := Lib.hid e3
      clear e3
      by_cases e4 : a.t.nsig = b.t.nsig
      case neg =>
        have HX : Hid (decide (a.t = b.t) = false) := Lib.hid (decide_eq_false fun e => e4 (by rw [e]))
        have t4 : (a.t.nsig != b.t.nsig) = true := by simp [e4]
        have hbb := g2.bel
        clear g2 e4
        go_wp2_with fail
        go_ret
        exact ⟨ret_b HX.out.symm, hbb⟩
      have t4 : (a.t.nsig != b.t.nsig) = false := by simp [e4]
      have E4 := Lib.hid e4
      clear e4
      have x0 := g2.ba.cell 0
      have y0 := g2.bb.cell 0
      simp only [List.getElem?_toArray, List.getElem?_cons_zero, List.getElem?_cons_succ] at x0 y0
      go_wp2_with fail
      clear x0 y0 x3 y3 x4 y4
      go_loopw [46] (fun i wr => ∃ k : Nat, k ≤ a.t.rts.length ∧ i = .int .i64 k ∧ T2 w a b wr ∧ Hid (a.t.rts.take k = b.t.rts.take k)) (fun i _ => a.t.rts.length - (intOf i).toNat)
      case atStart => exact ⟨0, Nat.zero_le _, rfl, g2, Lib.hid (by simp)⟩
      case round =>
        clear g2
        obtain ⟨k, hk, rfl, h, HK⟩ := hrel
        by_cases hlt : k < a.t.rts.length
        · have hltb : k < b.t.rts.length := by have := HLR.out; omega
          have hki : (k : Int) < (a.t.rts.length : Int) := by omega
          have hki2 : (k : Int) < (b.t.rts.length : Int) := by omega
          obtain ⟨p1, o1, u, hA, _, hue, hur, x0, x1, x2, x3, x4, x5, x6, x7, x8, x9, x10, x11, x12, x13⟩ := h.ra.r1.elR hlt
          obtain ⟨p2, o2, v, hC, _, hve, hvr, y0, y1, y2, y3, y4, y5, y6, y7, y8, y9, y10, y11, y12, y13⟩ := h.rb.r1.elR hltb
          have hT := h
          have HS : Hid (∀ W, Below wr.heap.size wr W → (fun w' => w'.cell? ⟨w.heap.size, 0, none⟩ = some (.slice (some ⟨p1, o1, none⟩) a.t.rts.length a.c1) ∧ w'.cell? ⟨w.heap.size + 1, 0, none⟩ = some (.slice (some ⟨p2, o2, none⟩) b.t.rts.length b.c1) ∧ w'.cell? ⟨p1, o1 + k * 14, none⟩ = some (.string (bs u.r.name)) ∧ w'.cell? ⟨p1, o1 + k * 14 + 1, none⟩ = some (.int .i64 u.r.ent) ∧ w'.cell? ⟨p1, o1 + k * 14 + 2, none⟩ = some (.int .i64 u.r.ext) ∧ w'.cell? ⟨p1, o1 + k * 14 + 3, none⟩ = some (.slice u.A1 u.r.path.length u.c1) ∧ w'.cell? ⟨p1, o1 + k * 14 + 4, none⟩ = some (.slice u.A2 u.r.pts.length u.c2) ∧ w'.cell? ⟨p1, o1 + k * 14 + 5, none⟩ = some (.slice u.A3 u.r.secs.length u.c3) ∧ w'.cell? ⟨p1, o1 + k * 14 + 6, none⟩ = some (.int .i64 u.r.app) ∧ w'.cell? ⟨p1, o1 + k * 14 + 7, none⟩ = some (.int .i64 u.r.len) ∧ w'.cell? ⟨p1, o1 + k * 14 + 8, none⟩ = some (.slice u.A4 u.r.over.length u.c4) ∧ w'.cell? ⟨p1, o1 + k * 14 + 9, none⟩ = some (.slice u.A5 u.r.opts.length u.c5) ∧ w'.cell? ⟨p1, o1 + k * 14 + 10, none⟩ = some (.slice u.A6 u.r.osecs.length u.c6) ∧ w'.cell? ⟨p1, o1 + k * 14 + 11, none⟩ = some (.slice u.A7 u.r.flk.length u.c7) ∧ w'.cell? ⟨p1, o1 + k * 14 + 12, none⟩ = some (.slice u.A8 u.r.grd.length u.c8) ∧ w'.cell? ⟨p1, o1 + k * 14 + 13, none⟩ = some (.slice u.A9 u.r.gap.length u.c9) ∧ w'.cell? ⟨p2, o2 + k * 14, none⟩ = some (.string (bs v.r.name)) ∧ w'.cell? ⟨p2, o2 + k * 14 + 1, none⟩ = some (.int .i64 v.r.ent) ∧ w'.cell? ⟨p2, o2 + k * 14 + 2, none⟩ = some (.int .i64 v.r.ext) ∧ w'.cell? ⟨p2, o2 + k * 14 + 3, none⟩ = some (.slice v.A1 v.r.path.length v.c1) ∧ w'.cell? ⟨p2, o2 + k * 14 + 4, none⟩ = some (.slice v.A2 v.r.pts.length v.c2) ∧ w'.cell? ⟨p2, o2 + k * 14 + 5, none⟩ = some (.slice v.A3 v.r.secs.length v.c3) ∧ w'.cell? ⟨p2, o2 + k * 14 + 6, none⟩ = some (.int .i64 v.r.app) ∧ w'.cell? ⟨p2, o2 + k * 14 + 7, none⟩ = some (.int .i64 v.r.len) ∧ w'.cell? ⟨p2, o2 + k * 14 + 8, none⟩ = some (.slice v.A4 v.r.over.length v.c4) ∧ w'.cell? ⟨p2, o2 + k * 14 + 9, none⟩ = some (.slice v.A5 v.r.opts.length v.c5) ∧ w'.cell? ⟨p2, o2 + k * 14 + 10, none⟩ = some (.slice v.A6 v.r.osecs.length v.c6) ∧ w'.cell? ⟨p2, o2 + k * 14 + 11, none⟩ = some (.slice v.A7 v.r.flk.length v.c7) ∧ w'.cell? ⟨p2, o2 + k * 14 + 12, none⟩ = some (.slice v.A8 v.r.grd.length v.c8) ∧ w'.cell? ⟨p2, o2 + k * 14 + 13, none⟩ = some (.slice v.A9 v.r.gap.length v.c9) ∧ T2 w a b w') W) := Lib.hid fun W hb => ⟨by (rw [← hA]; exact (hT.now hb).ba.cell 0), by (rw [← hC]; exact (hT.now hb).bb.cell 0), cell_now x0 hb, cell_now x1 hb, cell_now x2 hb, cell_now x3 hb, cell_now x4 hb, cell_now x5 hb, cell_now x6 hb, cell_now x7 hb, cell_now x8 hb, cell_now x9 hb, cell_now x10 hb, cell_now x11 hb, cell_now x12 hb, cell_now x13 hb, cell_now y0 hb, cell_now y1 hb, cell_now y2 hb, cell_now y3 hb, cell_now y4 hb, cell_now y5 hb, cell_now y6 hb, cell_now y7 hb, cell_now y8 hb, cell_now y9 hb, cell_now y10 hb, cell_now y11 hb, cell_now y12 hb, cell_now y13 hb, hT.now hb⟩
          have hax : a.t.rts[k] = u.r := hue.symm
          have hbx : b.t.rts[k] = v.r := hve.symm
          have HAX := Lib.hid hax
          have HBX := Lib.hid hbx
          clear hue hve hax hbx x0 y0 x1 y1 x2 y2 x3 y3 x4 y4 x5 y5 x6 y6 x7 y7 x8 y8 x9 y9 x10 y10 x11 y11 x12 y12 x13 y13
          have HUR := Lib.hid hur
          have HVR := Lib.hid hvr
          clear hur hvr hT
          have HH := Lib.hid h
          clear h hA hC
          cases sr : decide (u.r = v.r) with
          | false =>
            have HX : Hid (decide (a.t = b.t) = false) := Lib.hid (decide_eq_false fun e => ne_of_at hlt hltb (by rw [HAX.out, HBX.out]; exact of_decide_eq_false sr) (by rw [e]))
            have HC := Lib.hid fun W (hb : Below wr.heap.size wr W) => sameRC sr W (HUR.out.now hb) (HVR.out.now hb)
            clear sr
            go_wp2_with fail
            refine wp_region_held_drew (S := (fun w' => w'.cell? ⟨w.heap.size, 0, none⟩ = some (.slice (some ⟨p1, o1, none⟩) a.t.rts.length a.c1) ∧ w'.cell? ⟨w.heap.size + 1, 0, none⟩ = some (.slice (some ⟨p2, o2, none⟩) b.t.rts.length b.c1) ∧ w'.cell? ⟨p1, o1 + k * 14, none⟩ = some (.string (bs u.r.name)) ∧ w'.cell? ⟨p1, o1 + k * 14 + 1, none⟩ = some (.int .i64 u.r.ent) ∧ w'.cell? ⟨p1, o1 + k * 14 + 2, none⟩ = some (.int .i64 u.r.ext) ∧ w'.cell? ⟨p1, o1 + k * 14 + 3, none⟩ = some (.slice u.A1 u.r.path.length u.c1) ∧ w'.cell? ⟨p1, o1 + k * 14 + 4, none⟩ = some (.slice u.A2 u.r.pts.length u.c2) ∧ w'.cell? ⟨p1, o1 + k * 14 + 5, none⟩ = some (.slice u.A3 u.r.secs.length u.c3) ∧ w'.cell? ⟨p1, o1 + k * 14 + 6, none⟩ = some (.int .i64 u.r.app) ∧ w'.cell? ⟨p1, o1 + k * 14 + 7, none⟩ = some (.int .i64 u.r.len) ∧ w'.cell? ⟨p1, o1 + k * 14 + 8, none⟩ = some (.slice u.A4 u.r.over.length u.c4) ∧ w'.cell? ⟨p1, o1 + k * 14 + 9, none⟩ = some (.slice u.A5 u.r.opts.length u.c5) ∧ w'.cell? ⟨p1, o1 + k * 14 + 10, none⟩ = some (.slice u.A6 u.r.osecs.length u.c6) ∧ w'.cell? ⟨p1, o1 + k * 14 + 11, none⟩ = some (.slice u.A7 u.r.flk.length u.c7) ∧ w'.cell? ⟨p1, o1 + k * 14 + 12, none⟩ = some (.slice u.A8 u.r.grd.length u.c8) ∧ w'.cell? ⟨p1, o1 + k * 14 + 13, none⟩ = some (.slice u.A9 u.r.gap.length u.c9) ∧ w'.cell? ⟨p2, o2 + k * 14, none⟩ = some (.string (bs v.r.name)) ∧ w'.cell? ⟨p2, o2 + k * 14 + 1, none⟩ = some (.int .i64 v.r.ent) ∧ w'.cell? ⟨p2, o2 + k * 14 + 2, none⟩ = some (.int .i64 v.r.ext) ∧ w'.cell? ⟨p2, o2 + k * 14 + 3, none⟩ = some (.slice v.A1 v.r.path.length v.c1) ∧ w'.cell? ⟨p2, o2 + k * 14 + 4, none⟩ = some (.slice v.A2 v.r.pts.length v.c2) ∧ w'.cell? ⟨p2, o2 + k * 14 + 5, none⟩ = some (.slice v.A3 v.r.secs.length v.c3) ∧ w'.cell? ⟨p2, o2 + k * 14 + 6, none⟩ = some (.int .i64 v.r.app) ∧ w'.cell? ⟨p2, o2 + k * 14 + 7, none⟩ = some (.int .i64 v.r.len) ∧ w'.cell? ⟨p2, o2 + k * 14 + 8, none⟩ = some (.slice v.A4 v.r.over.length v.c4) ∧ w'.cell? ⟨p2, o2 + k * 14 + 9, none⟩ = some (.slice v.A5 v.r.opts.length v.c5) ∧ w'.cell? ⟨p2, o2 + k * 14 + 10, none⟩ = some (.slice v.A6 v.r.osecs.length v.c6) ∧ w'.cell? ⟨p2, o2 + k * 14 + 11, none⟩ = some (.slice v.A7 v.r.flk.length v.c7) ∧ w'.cell? ⟨p2, o2 + k * 14 + 12, none⟩ = some (.slice v.A8 v.r.grd.length v.c8) ∧ w'.cell? ⟨p2, o2 + k * 14 + 13, none⟩ = some (.slice v.A9 v.r.gap.length v.c9) ∧ T2 w a b w')) (by kernel_rfl) (HS.out _ (Below.refl _ _).drew) (fun hHeld => ?_)
            refine tkY (i := 0) (oi := .mk _ _ _ _ _ _) (v := ?_) rfl (by kernel_rfl) (fun _ _ _ h => h) (Or.inl ⟨by rfl, ?_⟩) (by assumption) ?_
            rotate_left
            · intro W hSw; (try dsimp only at hSw); go_simp; first | done | with_reducible rfl
            try simp only [Act.put, lsa, lsz, lss]
            refine tkY (i := 1) (oi := .mk _ _ _ _ _ _) (v := ?_) rfl (by kernel_rfl) (fun _ _ _ h => h) (Or.inl ⟨by rfl, ?_⟩) (by assumption) ?_
            rotate_left
            · intro W hSw; (try dsimp only at hSw); go_simp; first | done | with_reducible rfl
            try simp only [Act.put, lsa, lsz, lss]
            refine tkY (i := 2) (oi := .mk _ _ _ _ _ _) (v := ?_) rfl (by kernel_rfl) (fun _ _ _ h => h) (Or.inl ⟨by rfl, ?_⟩) (by assumption) ?_
            rotate_left
            · intro W hSw; (try dsimp only at hSw); go_simp; first | done | with_reducible rfl
            try simp only [Act.put, lsa, lsz, lss]
            refine tkY (i := 3) (oi := .mk _ _ _ _ _ _) (v := ?_) rfl (by kernel_rfl) (fun _ _ _ h => h) (Or.inl ⟨by rfl, ?_⟩) (by assumption) ?_
            rotate_left
            · intro W hSw; (try dsimp only at hSw); go_simp; first | done | with_reducible rfl
            try simp only [Act.put, lsa, lsz, lss]
            refine tkY (i := 4) (oi := .mk _ _ _ _ _ _) (v := ?_) rfl (by kernel_rfl) (fun _ _ _ h => h) (Or.inl ⟨by rfl, ?_⟩) (by assumption) ?_
            rotate_left
            · intro W hSw; (try dsimp only at hSw); go_simp; first | done | with_reducible rfl
            try simp only [Act.put, lsa, lsz, lss]
            refine tkY (i := 5) (oi := .mk _ _ _ _ _ _) (v := ?_) rfl (by kernel_rfl) (fun _ _ _ h => h) (Or.inl ⟨by rfl, ?_⟩) (by assumption) ?_
            rotate_left
            · intro W hSw; (try dsimp only at hSw); go_simp; first | done | with_reducible rfl
            try simp only [Act.put, lsa, lsz, lss]
            refine tkY (i := 6) (oi := .mk _ _ _ _ _ _) (v := ?_) rfl (by kernel_rfl) (fun _ _ _ h => h) (Or.inl ⟨by rfl, ?_⟩) (by assumption) ?_
            rotate_left
            · intro W hSw; (try dsimp only at hSw); go_simp; first | done | with_reducible rfl
            try simp only [Act.put, lsa, lsz, lss]
            refine tkY (i := 7) (oi := .mk _ _ _ _ _ _) (v := ?_) rfl (by kernel_rfl) (fun _ _ _ h => h) (Or.inl ⟨by rfl, ?_⟩) (by assumption) ?_
            rotate_left
            · intro W hSw; (try dsimp only at hSw); go_simp; first | done | with_reducible rfl
            try simp only [Act.put, lsa, lsz, lss]
            refine tkY (i := 8) (oi := .mk _ _ _ _ _ _) (v := ?_) rfl (by kernel_rfl) (fun _ _ _ h => h) (Or.inl ⟨by rfl, ?_⟩) (by assumption) ?_
            rotate_left
            · intro W hSw; (try dsimp only at hSw); go_simp; first | done | with_reducible rfl
            try simp only [Act.put, lsa, lsz, lss]
            refine tkY (i := 9) (oi := .mk _ _ _ _ _ _) (v := ?_) rfl (by kernel_rfl) (fun _ _ _ h => h) (Or.inl ⟨by rfl, ?_⟩) (by assumption) ?_
            rotate_left
            · intro W hSw; (try dsimp only at hSw); go_simp; first | done | with_reducible rfl
            try simp only [Act.put, lsa, lsz, lss]
            refine wpAnyH_ready (rs := [10]) (by kernel_rfl) (by simp) (AllReadyH.cons (o := .mk _ _ _ _ _ _) rfl (fun K hK => ?_) AllReadyH.nil)
            go_simp
            go_at_call 32
            refine (HC.out _ (Below.refl _ _).drew).mono ?_
            rintro e wq ⟨rfl, hq⟩
            have hq1 : Below wr.heap.size wr wq := (Below.refl _ _).drew.trans hq
            have hq0 := HS.out _ hq1
            go_wp2_with fail
            refine hK.out _ _ ?_ (fun hHeld => ?_)
            · exact hq0
            clear hK K
            try simp only [Act.put, lsa, lsz, lss]
            refine tkY (i := 11) (oi := .mk _ _ _ _ _ _) (v := ?_) rfl (by kernel_rfl) (fun _ _ _ h => h) (Or.inl ⟨by rfl, ?_⟩) (by assumption) ?_
            rotate_left
            · intro W hSw; (try dsimp only at hSw); go_simp; first | done | with_reducible rfl
            try simp only [Act.put, lsa, lsz, lss]
            refine wpAnyH_done (by kernel_rfl) ?_ _
            have g5 := HH.out.now hq1
            clear hq0 hq hHeld HS HH HC
            go_wp2_with fail
            go_ret
            exact ⟨ret_b HX.out.symm, g5.bel⟩
          | true =>
            have HE := Lib.hid (take_eq_snoc hlt hltb HK.out (by rw [HAX.out, HBX.out]; exact of_decide_eq_true sr))
            have HC := Lib.hid fun W (hb : Below wr.heap.size wr W) => sameRC sr W (HUR.out.now hb) (HVR.out.now hb)
            clear sr
            go_wp2_with fail
            refine wp_region_held_drew (S := (fun w' => w'.cell? ⟨w.heap.size, 0, none⟩ = some (.slice (some ⟨p1, o1, none⟩) a.t.rts.length a.c1) ∧ w'.cell? ⟨w.heap.size + 1, 0, none⟩ = some (.slice (some ⟨p2, o2, none⟩) b.t.rts.length b.c1) ∧ w'.cell? ⟨p1, o1 + k * 14, none⟩ = some (.string (bs u.r.name)) ∧ w'.cell? ⟨p1, o1 + k * 14 + 1, none⟩ = some (.int .i64 u.r.ent) ∧ w'.cell? ⟨p1, o1 + k * 14 + 2, none⟩ = some (.int .i64 u.r.ext) ∧ w'.cell? ⟨p1, o1 + k * 14 + 3, none⟩ = some (.slice u.A1 u.r.path.length u.c1) ∧ w'.cell? ⟨p1, o1 + k * 14 + 4, none⟩ = some (.slice u.A2 u.r.pts.length u.c2) ∧ w'.cell? ⟨p1, o1 + k * 14 + 5, none⟩ = some (.slice u.A3 u.r.secs.length u.c3) ∧ w'.cell? ⟨p1, o1 + k * 14 + 6, none⟩ = some (.int .i64 u.r.app) ∧ w'.cell? ⟨p1, o1 + k * 14 + 7, none⟩ = some (.int .i64 u.r.len) ∧ w'.cell? ⟨p1, o1 + k * 14 + 8, none⟩ = some (.slice u.A4 u.r.over.length u.c4) ∧ w'.cell? ⟨p1, o1 + k * 14 + 9, none⟩ = some (.slice u.A5 u.r.opts.length u.c5) ∧ w'.cell? ⟨p1, o1 + k * 14 + 10, none⟩ = some (.slice u.A6 u.r.osecs.length u.c6) ∧ w'.cell? ⟨p1, o1 + k * 14 + 11, none⟩ = some (.slice u.A7 u.r.flk.length u.c7) ∧ w'.cell? ⟨p1, o1 + k * 14 + 12, none⟩ = some (.slice u.A8 u.r.grd.length u.c8) ∧ w'.cell? ⟨p1, o1 + k * 14 + 13, none⟩ = some (.slice u.A9 u.r.gap.length u.c9) ∧ w'.cell? ⟨p2, o2 + k * 14, none⟩ = some (.string (bs v.r.name)) ∧ w'.cell? ⟨p2, o2 + k * 14 + 1, none⟩ = some (.int .i64 v.r.ent) ∧ w'.cell? ⟨p2, o2 + k * 14 + 2, none⟩ = some (.int .i64 v.r.ext) ∧ w'.cell? ⟨p2, o2 + k * 14 + 3, none⟩ = some (.slice v.A1 v.r.path.length v.c1) ∧ w'.cell? ⟨p2, o2 + k * 14 + 4, none⟩ = some (.slice v.A2 v.r.pts.length v.c2) ∧ w'.cell? ⟨p2, o2 + k * 14 + 5, none⟩ = some (.slice v.A3 v.r.secs.length v.c3) ∧ w'.cell? ⟨p2, o2 + k * 14 + 6, none⟩ = some (.int .i64 v.r.app) ∧ w'.cell? ⟨p2, o2 + k * 14 + 7, none⟩ = some (.int .i64 v.r.len) ∧ w'.cell? ⟨p2, o2 + k * 14 + 8, none⟩ = some (.slice v.A4 v.r.over.length v.c4) ∧ w'.cell? ⟨p2, o2 + k * 14 + 9, none⟩ = some (.slice v.A5 v.r.opts.length v.c5) ∧ w'.cell? ⟨p2, o2 + k * 14 + 10, none⟩ = some (.slice v.A6 v.r.osecs.length v.c6) ∧ w'.cell? ⟨p2, o2 + k * 14 + 11, none⟩ = some (.slice v.A7 v.r.flk.length v.c7) ∧ w'.cell? ⟨p2, o2 + k * 14 + 12, none⟩ = some (.slice v.A8 v.r.grd.length v.c8) ∧ w'.cell? ⟨p2, o2 + k * 14 + 13, none⟩ = some (.slice v.A9 v.r.gap.length v.c9) ∧ T2 w a b w')) (by kernel_rfl) (HS.out _ (Below.refl _ _).drew) (fun hHeld => ?_)
            refine tkY (i := 0) (oi := .mk _ _ _ _ _ _) (v := ?_) rfl (by kernel_rfl) (fun _ _ _ h => h) (Or.inl ⟨by rfl, ?_⟩) (by assumption) ?_
            rotate_left
            · intro W hSw; (try dsimp only at hSw); go_simp; first | done | with_reducible rfl
            try simp only [Act.put, lsa, lsz, lss]
            refine tkY (i := 1) (oi := .mk _ _ _ _ _ _) (v := ?_) rfl (by kernel_rfl) (fun _ _ _ h => h) (Or.inl ⟨by rfl, ?_⟩) (by assumption) ?_
            rotate_left
            · intro W hSw; (try dsimp only at hSw); go_simp; first | done | with_reducible rfl
            try simp only [Act.put, lsa, lsz, lss]
            refine tkY (i := 2) (oi := .mk _ _ _ _ _ _) (v := ?_) rfl (by kernel_rfl) (fun _ _ _ h => h) (Or.inl ⟨by rfl, ?_⟩) (by assumption) ?_
            rotate_left
            · intro W hSw; (try dsimp only at hSw); go_simp; first | done | with_reducible rfl
            try simp only [Act.put, lsa, lsz, lss]
            refine tkY (i := 3) (oi := .mk _ _ _ _ _ _) (v := ?_) rfl (by kernel_rfl) (fun _ _ _ h => h) (Or.inl ⟨by rfl, ?_⟩) (by assumption) ?_
            rotate_left
            · intro W hSw; (try dsimp only at hSw); go_simp; first | done | with_reducible rfl
            try simp only [Act.put, lsa, lsz, lss]
            refine tkY (i := 4) (oi := .mk _ _ _ _ _ _) (v := ?_) rfl (by kernel_rfl) (fun _ _ _ h => h) (Or.inl ⟨by rfl, ?_⟩) (by assumption) ?_
            rotate_left
            · intro W hSw; (try dsimp only at hSw); go_simp; first | done | with_reducible rfl
            try simp only [Act.put, lsa, lsz, lss]
            refine tkY (i := 5) (oi := .mk _ _ _ _ _ _) (v := ?_) rfl (by kernel_rfl) (fun _ _ _ h => h) (Or.inl ⟨by rfl, ?_⟩) (by assumption) ?_
            rotate_left
            · intro W hSw; (try dsimp only at hSw); go_simp; first | done | with_reducible rfl
            try simp only [Act.put, lsa, lsz, lss]
            refine tkY (i := 6) (oi := .mk _ _ _ _ _ _) (v := ?_) rfl (by kernel_rfl) (fun _ _ _ h => h) (Or.inl ⟨by rfl, ?_⟩) (by assumption) ?_
            rotate_left
            · intro W hSw; (try dsimp only at hSw); go_simp; first | done | with_reducible rfl
            try simp only [Act.put, lsa, lsz, lss]
            refine tkY (i := 7) (oi := .mk _ _ _ _ _ _) (v := ?_) rfl (by kernel_rfl) (fun _ _ _ h => h) (Or.inl ⟨by rfl, ?_⟩) (by assumption) ?_
            rotate_left
            · intro W hSw; (try dsimp only at hSw); go_simp; first | done | with_reducible rfl
            try simp only [Act.put, lsa, lsz, lss]
            refine tkY (i := 8) (oi := .mk _ _ _ _ _ _) (v := ?_) rfl (by kernel_rfl) (fun _ _ _ h => h) (Or.inl ⟨by rfl, ?_⟩) (by assumption) ?_
            rotate_left
            · intro W hSw; (try dsimp only at hSw); go_simp; first | done | with_reducible rfl
            try simp only [Act.put, lsa, lsz, lss]
            refine tkY (i := 9) (oi := .mk _ _ _ _ _ _) (v := ?_) rfl (by kernel_rfl) (fun _ _ _ h => h) (Or.inl ⟨by rfl, ?_⟩) (by assumption) ?_
            rotate_left
            · intro W hSw; (try dsimp only at hSw); go_simp; first | done | with_reducible rfl
            try simp only [Act.put, lsa, lsz, lss]
            refine wpAnyH_ready (rs := [10]) (by kernel_rfl) (by simp) (AllReadyH.cons (o := .mk _ _ _ _ _ _) rfl (fun K hK => ?_) AllReadyH.nil)
            go_simp
            go_at_call 32
            refine (HC.out _ (Below.refl _ _).drew).mono ?_
            rintro e wq ⟨rfl, hq⟩
            have hq1 : Below wr.heap.size wr wq := (Below.refl _ _).drew.trans hq
            have hq0 := HS.out _ hq1
            go_wp2_with fail
            refine hK.out _ _ ?_ (fun hHeld => ?_)
            · exact hq0
            clear hK K
            try simp only [Act.put, lsa, lsz, lss]
            refine tkY (i := 11) (oi := .mk _ _ _ _ _ _) (v := ?_) rfl (by kernel_rfl) (fun _ _ _ h => h) (Or.inl ⟨by rfl, ?_⟩) (by assumption) ?_
            rotate_left
            · intro W hSw; (try dsimp only at hSw); go_simp; first | done | with_reducible rfl
            try simp only [Act.put, lsa, lsz, lss]
            refine wpAnyH_done (by kernel_rfl) ?_ _
            have g5 := HH.out.now hq1
            clear hq0 hq hHeld HS HH HC
            go_wp2_with fail
            go_roundw
            case rel => exact ⟨k + 1, by omega, by go_num, g5, HE⟩
            case measure => simp [intOf]; omega
        · have HE := Lib.hid (eq_of_take hlt HLR.out HK.out)
          have hbb := h.bel
          clear h HK
          go_wp2_with fail
          go_ret
          exact ⟨ret_b (tab_eq HE.out S0.out S1.out E3.out E4.out).symm, hbb⟩
end Go.Proofs.YtlblfblkallnhaaGreatDoor
