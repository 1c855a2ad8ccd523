/- The reference's extended: a list's line, the whole call. -/
import Derived.Test.YtlblfblkallnhaaGreatDoorTbRqE
namespace Go.Proofs.YtlblfblkallnhaaGreatDoor
set_option linter.unusedVariables false
set_option linter.unusedSimpArgs false
open Go.RowKit
attribute [local go_sem] bs_size bs_get bs_append bs_extract bs_toList
attribute [-go_sem] run_equalIn_agg
theorem rValuesC {w0 : List UInt8} {a : List (List UInt8)} {r : Option (List Int)} (h : valsW w0 a = r) (A : Option Addr) (cap : Nat) (w : World) (hr : RdS cS w (Lt w) A (w0 :: a)) (hl : a.length ≤ 30000) (hw : ∀ x ∈ a, x.length ≤ 40000) :
    Calls Tryz.prog 67 #[.slice A (w0 :: a).length cap] w (OptR cI 3 w r) := h ▸ rValues_any w0 a A cap w hr hl hw
theorem valsW_len {w : List UInt8} {a : List (List UInt8)} {l : List Int} (h : valsW w a = some l) (ha : a.length ≤ 30000) : l.length ≤ 100000 := by
  unfold valsW at h
  split at h
  · cases h
  · cases hx : optP (widthF w) a with
    | none => rw [hx] at h; cases h
    | some xs =>
      rw [hx] at h
      simp only [Option.map_some, Option.some.injEq] at h
      obtain ⟨h1, h2⟩ := optP_ok hx
      rw [← h, flat_len3 (n := widthF w) fun x hm => (h2 x hm).2]
      have h3 : xs.length = a.length := by rw [← h1, List.length_map]
      have h4 := (width_le w).2
      exact Nat.le_trans (Nat.mul_le_mul (Nat.le_of_eq h3) h4) (by omega)
theorem rank_ne {x y : List UInt8} {k : Int} (h : rankF x = k) (hk : 4 ≤ k) (hy : rankF y < 4) : (x == y) = false := by
  rw [beq_eq_false_iff_ne]
  rintro rfl
  omega
theorem last_at {α : Type} {l : List α} {m : Nat} (h : l.length = m + 1) (z : α) : l.getLastD z = l[m] ∧ l.dropLast = l.take m := by
  constructor
  · have e : l.length - 1 = m := by omega
    rw [List.getLastD_eq_getLast?, List.getLast?_eq_getElem?, e, List.getElem?_eq_getElem (by omega)]; rfl
  · rw [List.dropLast_eq_take, h, Nat.add_sub_cancel]
theorem I23.zero {W : World} {N : Nat → Prop} {gx g15 m : Nat} {v : TabV} {r : RouV} (a : Act) (ts : a.tmps.size = 126) (df : a.defers = []) (t2 : a.eval (.tmp 2) = .pointer (some ⟨gx, 0, none⟩)) (t4 : a.eval (.tmp 4) = .pointer (some ⟨gx + 1, 0, none⟩)) (t13 : a.eval (.tmp 13) = .bool true) (t14 : a.eval (.tmp 14) = .int .i64 m) (t15 : a.eval (.tmp 15) = .pointer (some ⟨g15, 0, none⟩)) (hb : Blk W gx 25 #[.slice v.A1 v.t.rts.length v.c1, .slice v.A2 v.t.pts.length v.c2, .slice v.A3 v.t.homes.length v.c3, .int .i64 v.t.nsec, .int .i64 v.t.nsig]) : I23 W N gx g15 v m r (Array.replicate 11 false) a W.drew :=
  ⟨by simp, ts, df, t2, t4, t13, t14, t15, (Below.refl _ _).drew, fun _ _ _ => rfl, fun h => by simp [Array.getElem?_replicate] at h, fun h => by simp [Array.getElem?_replicate] at h, fun _ => hb.drew, fun h => by simp [Array.getElem?_replicate] at h, fun i hi hl => by simp [Array.getElem?_replicate, show i < 11 by omega] at hl⟩
theorem edge_all {listed : Array Bool} (hd : ∀ o, opsX[10]? = some o → ∀ e ∈ o.after, Region.binds .any e = true → listed[e.on]? = some true) : ∀ j, j < 10 → listed[j]? = some true := by
  intro j hj
  have hc : j = 0 ∨ j = 1 ∨ j = 2 ∨ j = 3 ∨ j = 4 ∨ j = 5 ∨ j = 6 ∨ j = 7 ∨ j = 8 ∨ j = 9 := by omega
  rcases hc with rfl | rfl | rfl | rfl | rfl | rfl | rfl | rfl | rfl | rfl
  · exact edge hd rfl 3 rfl rfl
  · exact edge hd rfl 4 rfl rfl
  · exact edge hd rfl 5 rfl rfl
  · exact edge hd rfl 6 rfl rfl
  · exact edge hd rfl 7 rfl rfl
  · exact edge hd rfl 8 rfl rfl
  · exact edge hd rfl 9 rfl rfl
  · exact edge hd rfl 10 rfl rfl
  · exact edge hd rfl 1 rfl rfl
  · exact edge hd rfl 0 rfl rfl
set_option maxRecDepth 100000 in
set_option maxHeartbeats 16000000 in
theorem rExt_list (v : TabV) (base : Nat) (N : Nat → Prop) (w : World) (hX : Xt w base N v) (hN : ∀ b, N b → ∃ cs, Blk w b 25 cs) (w0 : List UInt8) (k : Int) (hk : rankF w0 = k) (hk4 : 4 ≤ k) (hne : v.t.rts ≠ []) (hs : v.t.rts.length ≤ 40000) (a : List (List UInt8)) (A : Option Addr) (cap : Nat) (hrb : RdS cS w (fun k => k < base) A (w0 :: a)) (hl : a.length ≤ 30000) (hw : ∀ x ∈ w0 :: a, x.length ≤ 40000) :
    Calls Tryz.prog 30 #[tvA v, .slice A (w0 :: a).length cap] w (ExtP w base N (listT v.t k a)) := by
  have hle := hX.le
  have hr : RdS cS w (Lt w) A (w0 :: a) := hrb.more fun b hb => Nat.lt_of_lt_of_le hb hle
  have hbx : Blk ((w.alloc (.cells #[.slice v.A1 v.t.rts.length v.c1, .slice v.A2 v.t.pts.length v.c2, .slice v.A3 v.t.homes.length v.c3, .int .i64 v.t.nsec, .int .i64 v.t.nsig] 25)).alloc (.cells #[.slice none 0 0, .slice none 0 0, .slice none 0 0, .int .i64 0, .int .i64 0] 25)) w.heap.size 25 #[.slice v.A1 v.t.rts.length v.c1, .slice v.A2 v.t.pts.length v.c2, .slice v.A3 v.t.homes.length v.c3, .int .i64 v.t.nsec, .int .i64 v.t.nsig] := (Blk.new _ _ _ _ rfl).alloc _
  have hbz : Blk ((w.alloc (.cells #[.slice v.A1 v.t.rts.length v.c1, .slice v.A2 v.t.pts.length v.c2, .slice v.A3 v.t.homes.length v.c3, .int .i64 v.t.nsec, .int .i64 v.t.nsig] 25)).alloc (.cells #[.slice none 0 0, .slice none 0 0, .slice none 0 0, .int .i64 0, .int .i64 0] 25)) (w.heap.size + 1) 25 #[.slice none 0 0, .slice none 0 0, .slice none 0 0, .int .i64 0, .int .i64 0] := Blk.new _ _ _ _ (by simp)
  have hB0 : Below w.heap.size w ((w.alloc (.cells #[.slice v.A1 v.t.rts.length v.c1, .slice v.A2 v.t.pts.length v.c2, .slice v.A3 v.t.homes.length v.c3, .int .i64 v.t.nsec, .int .i64 v.t.nsig] 25)).alloc (.cells #[.slice none 0 0, .slice none 0 0, .slice none 0 0, .int .i64 0, .int .i64 0] 25)) := ((Below.refl _ _).alloc (Nat.le_refl _) _).alloc (by simp) _
  have hz0 : ((w.alloc (.cells #[.slice v.A1 v.t.rts.length v.c1, .slice v.A2 v.t.pts.length v.c2, .slice v.A3 v.t.homes.length v.c3, .int .i64 v.t.nsec, .int .i64 v.t.nsig] 25)).alloc (.cells #[.slice none 0 0, .slice none 0 0, .slice none 0 0, .int .i64 0, .int .i64 0] 25)).heap.size = w.heap.size + 2 := by simp
  obtain ⟨b, off, rfl, lb, -, y0⟩ := hr.elS (i := 0) (by simp)
  simp only [List.getElem_cons_zero, Nat.add_zero] at y0
  have lb' : b < w.heap.size := lb
  have yW := (hB0.cell (p := ⟨b, off, none⟩) lb').trans y0
  obtain ⟨r, hx⟩ : ∃ r, valsW w0 a = r := ⟨_, rfl⟩
  have HC := Lib.hid (rValuesC hx (some ⟨b, off, none⟩) cap ((w.alloc (.cells #[.slice v.A1 v.t.rts.length v.c1, .slice v.A2 v.t.pts.length v.c2, .slice v.A3 v.t.homes.length v.c3, .int .i64 v.t.nsec, .int .i64 v.t.nsig] 25)).alloc (.cells #[.slice none 0 0, .slice none 0 0, .slice none 0 0, .int .i64 0, .int .i64 0] 25)) (hr.now hB0) hl (fun x h => hw x (by simp [h])))
  have t1 := rank_ne (y := [116, 97, 98, 108, 101]) hk hk4 (by decide)
  have t2 := rank_ne (y := [112, 111, 105, 110, 116]) hk hk4 (by decide)
  have t3 := rank_ne (y := [114, 111, 117, 116, 101]) hk hk4 (by decide)
  simp only [List.length_cons] at HC ⊢
  unfold tvA
  clear hr hw hrb
  cases r with
  | none =>
    have HX := Lib.hid ((listT_with (t := v.t) (a := a) hk hk4).trans (by rw [hx]; try rfl))
    clear hx
    go_enter Tryz.func30, Tryz.ntmps30
    go_wp2_with fail
    refine HC.out.mono ?_
    rintro e w2 ⟨A6, c6, l6, rfl, hr6, hq, hl6⟩
    have hx2 := hbx.now hq
    have hz2 := hbz.now hq
    have hB2 := bel_then hB0 (by omega) hq
    have hX2 := hX.now hB2
    have hs2 := hq.size
    clear hbx hbz
    have x0 := hx2.cell 0
    have z0 := hz2.cell 0
    have x1 := hx2.cell 1
    have z1 := hz2.cell 1
    have x2 := hx2.cell 2
    have z2 := hz2.cell 2
    have x3 := hx2.cell 3
    have z3 := hz2.cell 3
    have x4 := hx2.cell 4
    have z4 := hz2.cell 4
    simp only [List.getElem?_toArray, List.getElem?_cons_zero, List.getElem?_cons_succ] at x0 x1 x2 x3 x4 z0 z1 z2 z3 z4
    have zf := hz2.free
    have yf := hx2.free
    have HP := Lib.hid ((⟨v, by rw [HX.out]; rfl, put5_low (hB2.mono hle) (show base ≤ w.heap.size + 1 by omega) (.slice v.A1 v.t.rts.length v.c1) (.slice v.A2 v.t.pts.length v.c2) (.slice v.A3 v.t.homes.length v.c3) (.int .i64 v.t.nsec) (.int .i64 v.t.nsig), Lib.hid (fun b cs h => h.now (put5_low hB2 (Nat.le_succ _) _ _ _ _ _)), Lib.hid fun x hx => by rw [HX.out] at hx; cases hx⟩ : ExtP w base N (listT v.t k a) (.returned (.tuple #[.agg #[.slice v.A1 v.t.rts.length v.c1, .slice v.A2 v.t.pts.length v.c2, .slice v.A3 v.t.homes.length v.c3, .int .i64 v.t.nsec, .int .i64 v.t.nsig], .bool false])) (put5 w2 (w.heap.size + 1) (.slice v.A1 v.t.rts.length v.c1) (.slice v.A2 v.t.pts.length v.c2) (.slice v.A3 v.t.homes.length v.c3) (.int .i64 v.t.nsec) (.int .i64 v.t.nsig))))
    clear hx2 hz2 hB2 hX2 hr6 hl6 hq
    go_wp2_with fail
    exact bodyPost_ret (v := .tuple #[.agg #[.slice v.A1 v.t.rts.length v.c1, .slice v.A2 v.t.pts.length v.c2, .slice v.A3 v.t.homes.length v.c3, .int .i64 v.t.nsec, .int .i64 v.t.nsig], .bool false]) (by simp [results, Tryz.results30, go_sem, z0, z1, z2, z3, z4]) rfl HP.out
  | some ls =>
    have hlsl := valsW_len hx hl
    obtain ⟨m, hm⟩ : ∃ m, v.t.rts.length = m + 1 := ⟨v.t.rts.length - 1, by have := List.length_pos_iff.2 hne; omega⟩
    obtain ⟨hla, hdl⟩ := last_at hm zR
    have hTV := hX.tv
    have hcap := hTV.n1.2
    obtain ⟨B1, S1, hB1, hS1, lo⟩ := hX.r1
    have hbl := lo.ble
    have hNl : ∀ b, N b → b < w.heap.size := fun b hb => by obtain ⟨cs, h⟩ := hN b hb; exact h.lt
    obtain ⟨A1', c1', he1, hn1', hrd1⟩ := lo.rds (S' := fun b => b < w.heap.size ∧ ¬ N b) (fun b hb => ⟨Nat.lt_of_lt_of_le (hS1 b hb).1 hbl, (hS1 b hb).2⟩) (fun b hb => ⟨(lo.lt b hb).2, fun hn => by obtain ⟨cs, h⟩ := hN b hn; exact lo.ne h (by decide) b hb rfl⟩)
    simp only [Value.slice.injEq, true_and] at he1
    obtain ⟨he1, he2⟩ := he1
    rw [← he1] at hrd1
    clear he1 he2 hn1' lo
    have HRD1 := Lib.hid hrd1
    obtain ⟨b1, o1, r0, hA, lb1, hre, hrv, y0', y1, y2, y3, y4, y5, y6, y7, y8, y9, y10, y11, y12, y13⟩ := hrd1.elR (i := m) (by omega)
    have lb1' : b1 < w.heap.size := lb1.1
    clear hrd1
    have HX : Hid (listT v.t k a = some { v.t with rts := v.t.rts.take m ++ [withF r0.r w0 ls] }) := Lib.hid ((listT_with (t := v.t) (a := a) hk hk4).trans (by rw [hx, hla, hdl, hre]; try rfl))
    have HM := Lib.hid hm
    have HA := Lib.hid hA
    clear hx hla hdl hre hne hm hA
    go_enter Tryz.func30, Tryz.ntmps30
    go_wp2_with fail
    refine HC.out.mono ?_
    rintro e w2 ⟨A6, c6, l6, rfl, hr6, hq, hl6⟩
    have hx2 := hbx.now hq
    have hz2 := hbz.now hq
    have hB2 := bel_then hB0 (by omega) hq
    have hX2 := hX.now hB2
    have hs2 := hq.size
    clear hbx hbz
    obtain rfl := hl6.out _ rfl
    have hgx2 : w.heap.size + 2 ≤ w2.heap.size := by omega
    obtain ⟨A7, c7, h7, hn7, hrd7⟩ := hr6.rds (S := OutW w2 N w.heap.size) (fun b cs hb hbs => ⟨lt_heap hb, by omega, by omega, fun hn => by have := hNl b hn; omega⟩) (fun b hb => absurd hb.1 (Nat.not_lt_zero _))
    simp only [Value.slice.injEq, true_and] at h7
    obtain ⟨rfl, rfl⟩ := h7
    have hrv2 : RvR w2 (OutW w2 N w.heap.size) r0 := (hrv.keep fun p hp => hB2.cell hp.1).more fun b hb => (by have h1 := hb.1; have h2 := hb.2; exact ⟨by omega, by omega, by omega, h2⟩)
    have x0 := hx2.cell 0
    simp only [List.getElem?_toArray, List.getElem?_cons_zero, List.getElem?_cons_succ] at x0
    rw [HM.out, HA.out] at x0
    have q0 := (hB2.cell (p := ⟨b1, o1 + m * 14, none⟩) lb1').trans y0'
    have q1 := (hB2.cell (p := ⟨b1, o1 + m * 14 + 1, none⟩) lb1').trans y1
    have q2 := (hB2.cell (p := ⟨b1, o1 + m * 14 + 2, none⟩) lb1').trans y2
    have q3 := (hB2.cell (p := ⟨b1, o1 + m * 14 + 3, none⟩) lb1').trans y3
    have q4 := (hB2.cell (p := ⟨b1, o1 + m * 14 + 4, none⟩) lb1').trans y4
    have q5 := (hB2.cell (p := ⟨b1, o1 + m * 14 + 5, none⟩) lb1').trans y5
    have q6 := (hB2.cell (p := ⟨b1, o1 + m * 14 + 6, none⟩) lb1').trans y6
    have q7 := (hB2.cell (p := ⟨b1, o1 + m * 14 + 7, none⟩) lb1').trans y7
    have q8 := (hB2.cell (p := ⟨b1, o1 + m * 14 + 8, none⟩) lb1').trans y8
    have q9 := (hB2.cell (p := ⟨b1, o1 + m * 14 + 9, none⟩) lb1').trans y9
    have q10 := (hB2.cell (p := ⟨b1, o1 + m * 14 + 10, none⟩) lb1').trans y10
    have q11 := (hB2.cell (p := ⟨b1, o1 + m * 14 + 11, none⟩) lb1').trans y11
    have q12 := (hB2.cell (p := ⟨b1, o1 + m * 14 + 12, none⟩) lb1').trans y12
    have q13 := (hB2.cell (p := ⟨b1, o1 + m * 14 + 13, none⟩) lb1').trans y13
    have qw := (hB2.cell (p := ⟨b, off, none⟩) lb').trans y0
    have hlx : w.heap.size < w2.heap.size := by omega
    have hl1 : b1 < w2.heap.size := by omega
    have hl2 : b < w2.heap.size := by omega
    have HSS : Hid (∀ W, Below w2.heap.size w2 W → (fun w' => w'.cell? ⟨w.heap.size, 0, none⟩ = some (.slice (some ⟨b1, o1, none⟩) (m + 1) v.c1) ∧ w'.cell? ⟨b1, o1 + m * 14, none⟩ = some (.string (bs r0.r.name)) ∧ w'.cell? ⟨b1, o1 + m * 14 + 1, none⟩ = some (.int .i64 r0.r.ent) ∧ w'.cell? ⟨b1, o1 + m * 14 + 2, none⟩ = some (.int .i64 r0.r.ext) ∧ w'.cell? ⟨b1, o1 + m * 14 + 3, none⟩ = some (.slice r0.A1 r0.r.path.length r0.c1) ∧ w'.cell? ⟨b1, o1 + m * 14 + 4, none⟩ = some (.slice r0.A2 r0.r.pts.length r0.c2) ∧ w'.cell? ⟨b1, o1 + m * 14 + 5, none⟩ = some (.slice r0.A3 r0.r.secs.length r0.c3) ∧ w'.cell? ⟨b1, o1 + m * 14 + 6, none⟩ = some (.int .i64 r0.r.app) ∧ w'.cell? ⟨b1, o1 + m * 14 + 7, none⟩ = some (.int .i64 r0.r.len) ∧ w'.cell? ⟨b1, o1 + m * 14 + 8, none⟩ = some (.slice r0.A4 r0.r.over.length r0.c4) ∧ w'.cell? ⟨b1, o1 + m * 14 + 9, none⟩ = some (.slice r0.A5 r0.r.opts.length r0.c5) ∧ w'.cell? ⟨b1, o1 + m * 14 + 10, none⟩ = some (.slice r0.A6 r0.r.osecs.length r0.c6) ∧ w'.cell? ⟨b1, o1 + m * 14 + 11, none⟩ = some (.slice r0.A7 r0.r.flk.length r0.c7) ∧ w'.cell? ⟨b1, o1 + m * 14 + 12, none⟩ = some (.slice r0.A8 r0.r.grd.length r0.c8) ∧ w'.cell? ⟨b1, o1 + m * 14 + 13, none⟩ = some (.slice r0.A9 r0.r.gap.length r0.c9) ∧ w'.cell? ⟨b, off, none⟩ = some (.string (bs w0)) ∧ Below w2.heap.size w2 w') W) := Lib.hid fun W h => ⟨(h.cell (p := ⟨w.heap.size, 0, none⟩) hlx).trans x0, (h.cell (p := ⟨b1, o1 + m * 14, none⟩) hl1).trans q0, (h.cell (p := ⟨b1, o1 + m * 14 + 1, none⟩) hl1).trans q1, (h.cell (p := ⟨b1, o1 + m * 14 + 2, none⟩) hl1).trans q2, (h.cell (p := ⟨b1, o1 + m * 14 + 3, none⟩) hl1).trans q3, (h.cell (p := ⟨b1, o1 + m * 14 + 4, none⟩) hl1).trans q4, (h.cell (p := ⟨b1, o1 + m * 14 + 5, none⟩) hl1).trans q5, (h.cell (p := ⟨b1, o1 + m * 14 + 6, none⟩) hl1).trans q6, (h.cell (p := ⟨b1, o1 + m * 14 + 7, none⟩) hl1).trans q7, (h.cell (p := ⟨b1, o1 + m * 14 + 8, none⟩) hl1).trans q8, (h.cell (p := ⟨b1, o1 + m * 14 + 9, none⟩) hl1).trans q9, (h.cell (p := ⟨b1, o1 + m * 14 + 10, none⟩) hl1).trans q10, (h.cell (p := ⟨b1, o1 + m * 14 + 11, none⟩) hl1).trans q11, (h.cell (p := ⟨b1, o1 + m * 14 + 12, none⟩) hl1).trans q12, (h.cell (p := ⟨b1, o1 + m * 14 + 13, none⟩) hl1).trans q13, (h.cell (p := ⟨b, off, none⟩) hl2).trans qw, h⟩
    have hmb : m ≤ 40000 := by have := HM.out; omega
    have hwm1 : IntKind.i64.wrap ((m : Int) + 1 - 1) = (m : Int) := by rw [show (m : Int) + 1 - 1 = (m : Int) by omega]; exact IntWalk.i64_in _ (by omega)
    have hwm2 : IntKind.i64.wrap (m : Int) = (m : Int) := IntWalk.i64_in _ (by omega)
    have hmi : (m : Int) < (m : Int) + 1 := by omega
    have HTV := Lib.hid hTV
    have HX0 := Lib.hid hX
    have HXX := Lib.hid hk4
    have HK := Lib.hid hk
    have HWI : Hid (∀ W, Below w2.heap.size w2 W → Calls Tryz.prog 68 #[.agg #[.string (bs r0.r.name), .int .i64 r0.r.ent, .int .i64 r0.r.ext, .slice r0.A1 r0.r.path.length r0.c1, .slice r0.A2 r0.r.pts.length r0.c2, .slice r0.A3 r0.r.secs.length r0.c3, .int .i64 r0.r.app, .int .i64 r0.r.len, .slice r0.A4 r0.r.over.length r0.c4, .slice r0.A5 r0.r.opts.length r0.c5, .slice r0.A6 r0.r.osecs.length r0.c6, .slice r0.A7 r0.r.flk.length r0.c7, .slice r0.A8 r0.r.grd.length r0.c8, .slice r0.A9 r0.r.gap.length r0.c9], .string (bs w0), .slice A6 l6.length c6] W (WithP W (OutW w2 N w.heap.size) (withF r0.r w0 l6))) := Lib.hid fun W h => rWith_any r0 w0 (by rw [hk]; exact hk4) l6 A6 c6 W (OutW w2 N w.heap.size) (fun b hb => Nat.lt_of_lt_of_le hb.1 h.size) (hrv2.keep fun p hp => h.cell hp.1) (hrd7.keep fun p hp => h.cell hp.1) ⟨hlsl, hn7.2⟩
    clear hTV hX hX2 hk hk4 hr6 hl6 hq hrv hrv2 hrd7 hn7 y0 y0' y1 y2 y3 y4 y5 y6 y7 y8 y9 y10 y11 y12 y13 qw q0 q1 q2 q3 q4 q5 q6 q7 q8 q9 q10 q11 q12 q13 hmi
    have hmi : (m : Int) < (m : Int) + 1 := by omega
    go_wp2_with fail
    refine wp_region_held_drew (S := (fun w' => w'.cell? ⟨w.heap.size, 0, none⟩ = some (.slice (some ⟨b1, o1, none⟩) (m + 1) v.c1) ∧ w'.cell? ⟨b1, o1 + m * 14, none⟩ = some (.string (bs r0.r.name)) ∧ w'.cell? ⟨b1, o1 + m * 14 + 1, none⟩ = some (.int .i64 r0.r.ent) ∧ w'.cell? ⟨b1, o1 + m * 14 + 2, none⟩ = some (.int .i64 r0.r.ext) ∧ w'.cell? ⟨b1, o1 + m * 14 + 3, none⟩ = some (.slice r0.A1 r0.r.path.length r0.c1) ∧ w'.cell? ⟨b1, o1 + m * 14 + 4, none⟩ = some (.slice r0.A2 r0.r.pts.length r0.c2) ∧ w'.cell? ⟨b1, o1 + m * 14 + 5, none⟩ = some (.slice r0.A3 r0.r.secs.length r0.c3) ∧ w'.cell? ⟨b1, o1 + m * 14 + 6, none⟩ = some (.int .i64 r0.r.app) ∧ w'.cell? ⟨b1, o1 + m * 14 + 7, none⟩ = some (.int .i64 r0.r.len) ∧ w'.cell? ⟨b1, o1 + m * 14 + 8, none⟩ = some (.slice r0.A4 r0.r.over.length r0.c4) ∧ w'.cell? ⟨b1, o1 + m * 14 + 9, none⟩ = some (.slice r0.A5 r0.r.opts.length r0.c5) ∧ w'.cell? ⟨b1, o1 + m * 14 + 10, none⟩ = some (.slice r0.A6 r0.r.osecs.length r0.c6) ∧ w'.cell? ⟨b1, o1 + m * 14 + 11, none⟩ = some (.slice r0.A7 r0.r.flk.length r0.c7) ∧ w'.cell? ⟨b1, o1 + m * 14 + 12, none⟩ = some (.slice r0.A8 r0.r.grd.length r0.c8) ∧ w'.cell? ⟨b1, o1 + m * 14 + 13, none⟩ = some (.slice r0.A9 r0.r.gap.length r0.c9) ∧ w'.cell? ⟨b, off, none⟩ = some (.string (bs w0)) ∧ Below w2.heap.size w2 w')) (by kernel_rfl) (HSS.out _ (Below.refl _ _).drew) (fun hHeld => ?_)
    refine tkY (i := 0) (oi := .mk _ _ _ _ _ _) (v := ?_) rfl (by kernel_rfl) (fun _ _ _ h => h) (Or.inl ⟨by rfl, ?_⟩) (by assumption) ?_
    rotate_left
    · intro W hSw; (try dsimp only at hSw); go_simp; first | done | with_reducible rfl
    try simp only [Act.put, lsa, lsz, lss]
    refine tkY (i := 1) (oi := .mk _ _ _ _ _ _) (v := ?_) rfl (by kernel_rfl) (fun _ _ _ h => h) (Or.inl ⟨by rfl, ?_⟩) (by assumption) ?_
    rotate_left
    · intro W hSw; (try dsimp only at hSw); go_simp; first | done | with_reducible rfl
    try simp only [Act.put, lsa, lsz, lss]
    refine tkY (i := 2) (oi := .mk _ _ _ _ _ _) (v := ?_) rfl (by kernel_rfl) (fun _ _ _ h => h) (Or.inl ⟨by rfl, ?_⟩) (by assumption) ?_
    rotate_left
    · intro W hSw; (try dsimp only at hSw); go_simp; first | done | with_reducible rfl
    try simp only [Act.put, lsa, lsz, lss]
    refine tkY (i := 3) (oi := .mk _ _ _ _ _ _) (v := ?_) rfl (by kernel_rfl) (fun _ _ _ h => h) (Or.inl ⟨by rfl, ?_⟩) (by assumption) ?_
    rotate_left
    · intro W hSw; (try dsimp only at hSw); go_simp; first | done | with_reducible rfl
    try simp only [Act.put, lsa, lsz, lss]
    refine tkY (i := 4) (oi := .mk _ _ _ _ _ _) (v := ?_) rfl (by kernel_rfl) (fun _ _ _ h => h) (Or.inl ⟨by rfl, ?_⟩) (by assumption) ?_
    rotate_left
    · intro W hSw; (try dsimp only at hSw); go_simp; first | done | with_reducible rfl
    try simp only [Act.put, lsa, lsz, lss]
    refine tkY (i := 5) (oi := .mk _ _ _ _ _ _) (v := ?_) rfl (by kernel_rfl) (fun _ _ _ h => h) (Or.inl ⟨by rfl, ?_⟩) (by assumption) ?_
    rotate_left
    · intro W hSw; (try dsimp only at hSw); go_simp; first | done | with_reducible rfl
    try simp only [Act.put, lsa, lsz, lss]
    refine tkY (i := 6) (oi := .mk _ _ _ _ _ _) (v := ?_) rfl (by kernel_rfl) (fun _ _ _ h => h) (Or.inl ⟨by rfl, ?_⟩) (by assumption) ?_
    rotate_left
    · intro W hSw; (try dsimp only at hSw); go_simp; first | done | with_reducible rfl
    try simp only [Act.put, lsa, lsz, lss]
    refine tkY (i := 7) (oi := .mk _ _ _ _ _ _) (v := ?_) rfl (by kernel_rfl) (fun _ _ _ h => h) (Or.inl ⟨by rfl, ?_⟩) (by assumption) ?_
    rotate_left
    · intro W hSw; (try dsimp only at hSw); go_simp; first | done | with_reducible rfl
    try simp only [Act.put, lsa, lsz, lss]
    refine tkY (i := 8) (oi := .mk _ _ _ _ _ _) (v := ?_) rfl (by kernel_rfl) (fun _ _ _ h => h) (Or.inl ⟨by rfl, ?_⟩) (by assumption) ?_
    rotate_left
    · intro W hSw; (try dsimp only at hSw); go_simp; first | done | with_reducible rfl
    try simp only [Act.put, lsa, lsz, lss]
    refine wpAnyH_ready (rs := [9, 10]) (by kernel_rfl) (by simp) (AllReadyH.cons (o := .mk _ _ _ _ _ _) rfl (fun K hK => ?_) (AllReadyH.cons (o := .mk _ _ _ _ _ _) rfl (fun K hK => ?_) AllReadyH.nil))
    go_simp
    go_at_call 68
    refine (HWI.out _ (Below.refl _ _).drew).mono ?_
    rintro e wq ⟨rv, hrr, rfl, hrv9, hq9⟩
    have HRR := Lib.hid hrr
    clear hrr
    have hq9' : Below w2.heap.size w2 wq := (Below.refl _ _).drew.trans hq9
    go_wp2_with fail
    refine hK.out _ _ ?_ (fun hHeld => ?_)
    · exact HSS.out _ hq9'
    clear hK K
    try simp only [Act.put, lsa, lsz, lss]
    refine wpAnyH_ready (rs := [10]) (by kernel_rfl) (by simp) (AllReadyH.cons (o := .mk _ _ _ _ _ _) rfl (fun K hK => ?_) AllReadyH.nil)
    go_simp
    refine hK.out _ _ ?_ (fun hHeld => ?_)
    · exact HSS.out _ (hq9'.alloc hq9'.size _)
    clear hK K
    try simp only [Act.put, lsa, lsz, lss]
    refine wpAnyH_ready (rs := [11]) (by kernel_rfl) (by simp) (AllReadyH.cons (o := .mk _ _ _ _ _ _) rfl (fun K hK => ?_) AllReadyH.nil)
    go_simp
    refine hK.out _ _ ?_ (fun hHeld => ?_)
    · exact HSS.out _ (hq9'.alloc hq9'.size _)
    clear hK K
    try simp only [Act.put, lsa, lsz, lss]
    refine wpAnyH_done (by kernel_rfl) ?_ _
    go_wp2_with fail
    have hbB : Below w2.heap.size w2 (wq.alloc (.cells #[.string (bs rv.r.name), .int .i64 rv.r.ent, .int .i64 rv.r.ext, .slice rv.A1 rv.r.path.length rv.c1, .slice rv.A2 rv.r.pts.length rv.c2, .slice rv.A3 rv.r.secs.length rv.c3, .int .i64 rv.r.app, .int .i64 rv.r.len, .slice rv.A4 rv.r.over.length rv.c4, .slice rv.A5 rv.r.opts.length rv.c5, .slice rv.A6 rv.r.osecs.length rv.c6, .slice rv.A7 rv.r.flk.length rv.c7, .slice rv.A8 rv.r.grd.length rv.c8, .slice rv.A9 rv.r.gap.length rv.c9] 41)) := hq9'.alloc hq9'.size _
    have b15 : Blk (wq.alloc (.cells #[.string (bs rv.r.name), .int .i64 rv.r.ent, .int .i64 rv.r.ext, .slice rv.A1 rv.r.path.length rv.c1, .slice rv.A2 rv.r.pts.length rv.c2, .slice rv.A3 rv.r.secs.length rv.c3, .int .i64 rv.r.app, .int .i64 rv.r.len, .slice rv.A4 rv.r.over.length rv.c4, .slice rv.A5 rv.r.opts.length rv.c5, .slice rv.A6 rv.r.osecs.length rv.c6, .slice rv.A7 rv.r.flk.length rv.c7, .slice rv.A8 rv.r.grd.length rv.c8, .slice rv.A9 rv.r.gap.length rv.c9] 41)) wq.heap.size 41 #[.string (bs rv.r.name), .int .i64 rv.r.ent, .int .i64 rv.r.ext, .slice rv.A1 rv.r.path.length rv.c1, .slice rv.A2 rv.r.pts.length rv.c2, .slice rv.A3 rv.r.secs.length rv.c3, .int .i64 rv.r.app, .int .i64 rv.r.len, .slice rv.A4 rv.r.over.length rv.c4, .slice rv.A5 rv.r.opts.length rv.c5, .slice rv.A6 rv.r.osecs.length rv.c6, .slice rv.A7 rv.r.flk.length rv.c7, .slice rv.A8 rv.r.grd.length rv.c8, .slice rv.A9 rv.r.gap.length rv.c9] := Blk.new _ _ _ _ rfl
    have hsq : w2.heap.size ≤ wq.heap.size := hq9'.size
    have hsz3 : (wq.alloc (.cells #[.string (bs rv.r.name), .int .i64 rv.r.ent, .int .i64 rv.r.ext, .slice rv.A1 rv.r.path.length rv.c1, .slice rv.A2 rv.r.pts.length rv.c2, .slice rv.A3 rv.r.secs.length rv.c3, .int .i64 rv.r.app, .int .i64 rv.r.len, .slice rv.A4 rv.r.over.length rv.c4, .slice rv.A5 rv.r.opts.length rv.c5, .slice rv.A6 rv.r.osecs.length rv.c6, .slice rv.A7 rv.r.flk.length rv.c7, .slice rv.A8 rv.r.grd.length rv.c8, .slice rv.A9 rv.r.gap.length rv.c9] 41)).heap.size = wq.heap.size + 1 := by simp
    have hrvq : RvR (wq.alloc (.cells #[.string (bs rv.r.name), .int .i64 rv.r.ent, .int .i64 rv.r.ext, .slice rv.A1 rv.r.path.length rv.c1, .slice rv.A2 rv.r.pts.length rv.c2, .slice rv.A3 rv.r.secs.length rv.c3, .int .i64 rv.r.app, .int .i64 rv.r.len, .slice rv.A4 rv.r.over.length rv.c4, .slice rv.A5 rv.r.opts.length rv.c5, .slice rv.A6 rv.r.osecs.length rv.c6, .slice rv.A7 rv.r.flk.length rv.c7, .slice rv.A8 rv.r.grd.length rv.c8, .slice rv.A9 rv.r.gap.length rv.c9] 41)) (OutW (wq.alloc (.cells #[.string (bs rv.r.name), .int .i64 rv.r.ent, .int .i64 rv.r.ext, .slice rv.A1 rv.r.path.length rv.c1, .slice rv.A2 rv.r.pts.length rv.c2, .slice rv.A3 rv.r.secs.length rv.c3, .int .i64 rv.r.app, .int .i64 rv.r.len, .slice rv.A4 rv.r.over.length rv.c4, .slice rv.A5 rv.r.opts.length rv.c5, .slice rv.A6 rv.r.osecs.length rv.c6, .slice rv.A7 rv.r.flk.length rv.c7, .slice rv.A8 rv.r.grd.length rv.c8, .slice rv.A9 rv.r.gap.length rv.c9] 41)) N w.heap.size) rv := (hrv9.keep fun p hp => ((Below.refl wq.heap.size wq).alloc (Nat.le_refl _) _).cell (by (rcases hp with h | h; exact Nat.lt_of_lt_of_le h.1 hsq; exact h.2))).more fun b hb => by (rcases hb with h | h; exact ⟨by have := h.1; omega, h.2.1, h.2.2.1, h.2.2.2⟩; exact ⟨by have := h.2; omega, by have h1 : w2.heap.size ≤ b := h.1; omega, by have h1 : w2.heap.size ≤ b := h.1; omega, fun hn => by have h1 : w2.heap.size ≤ b := h.1; have := hNl b hn; omega⟩)
    clear hrv9 hq9 hq9' hHeld hsz3
    generalize wq.alloc (.cells #[.string (bs rv.r.name), .int .i64 rv.r.ent, .int .i64 rv.r.ext, .slice rv.A1 rv.r.path.length rv.c1, .slice rv.A2 rv.r.pts.length rv.c2, .slice rv.A3 rv.r.secs.length rv.c3, .int .i64 rv.r.app, .int .i64 rv.r.len, .slice rv.A4 rv.r.over.length rv.c4, .slice rv.A5 rv.r.opts.length rv.c5, .slice rv.A6 rv.r.osecs.length rv.c6, .slice rv.A7 rv.r.flk.length rv.c7, .slice rv.A8 rv.r.grd.length rv.c8, .slice rv.A9 rv.r.gap.length rv.c9] 41) = W3 at *
    generalize wq.heap.size = g15 at *
    have hge : w2.heap.size ≤ g15 := hsq
    rotate_left 1
    go_simp
    refine hK.out _ _ ?_ (fun hHeld => ?_)
    · exact HSS.out _ ((Below.refl _ _).alloc (Nat.le_refl _) _).drew
    clear hK K
    try simp only [Act.put, lsa, lsz, lss]
    refine wpAnyH_ready (rs := [9]) (by kernel_rfl) (by simp) (AllReadyH.cons (o := .mk _ _ _ _ _ _) rfl (fun K hK => ?_) AllReadyH.nil)
    go_simp
    go_at_call 68
    refine (HWI.out _ ((Below.refl _ _).alloc (Nat.le_refl _) _).drew).mono ?_
    rintro e wq ⟨rv, hrr, rfl, hrv9, hq9⟩
    have HRR := Lib.hid hrr
    clear hrr
    have hq9' : Below w2.heap.size w2 wq := (((Below.refl w2.heap.size w2).alloc (Nat.le_refl _) (.cells #[.string { data := #[] }, .int .i64 0, .int .i64 0, .slice none 0 0, .slice none 0 0, .slice none 0 0, .int .i64 0, .int .i64 0, .slice none 0 0, .slice none 0 0, .slice none 0 0, .slice none 0 0, .slice none 0 0, .slice none 0 0] 41)).drew).trans (hq9.mono (by simp))
    have hwz : ((w2.alloc (.cells #[.string { data := #[] }, .int .i64 0, .int .i64 0, .slice none 0 0, .slice none 0 0, .slice none 0 0, .int .i64 0, .int .i64 0, .slice none 0 0, .slice none 0 0, .slice none 0 0, .slice none 0 0, .slice none 0 0, .slice none 0 0] 41)).drew).heap.size = w2.heap.size + 1 := by simp
    have bz14 : Blk wq w2.heap.size 41 #[.string { data := #[] }, .int .i64 0, .int .i64 0, .slice none 0 0, .slice none 0 0, .slice none 0 0, .int .i64 0, .int .i64 0, .slice none 0 0, .slice none 0 0, .slice none 0 0, .slice none 0 0, .slice none 0 0, .slice none 0 0] := (Blk.new w2 _ _ _ rfl).drew.now hq9
    have hsq : w2.heap.size + 1 ≤ wq.heap.size := by have h1 := hq9.size; rw [hwz] at h1; exact h1
    go_wp2_with fail
    refine hK.out _ _ ?_ (fun hHeld => ?_)
    · exact HSS.out _ hq9'
    clear hK K
    try simp only [Act.put, lsa, lsz, lss]
    have u0 := bz14.cell 0
    have u1 := bz14.cell 1
    have u2 := bz14.cell 2
    have u3 := bz14.cell 3
    have u4 := bz14.cell 4
    have u5 := bz14.cell 5
    have u6 := bz14.cell 6
    have u7 := bz14.cell 7
    have u8 := bz14.cell 8
    have u9 := bz14.cell 9
    have u10 := bz14.cell 10
    have u11 := bz14.cell 11
    have u12 := bz14.cell 12
    have u13 := bz14.cell 13
    simp only [List.getElem?_toArray, List.getElem?_cons_zero, List.getElem?_cons_succ] at u0 u1 u2 u3 u4 u5 u6 u7 u8 u9 u10 u11 u12 u13
    have uf := bz14.free
    have hbP := put14_bel hq9' (Nat.le_refl w2.heap.size) (.string (bs rv.r.name)) (.int .i64 rv.r.ent) (.int .i64 rv.r.ext) (.slice rv.A1 rv.r.path.length rv.c1) (.slice rv.A2 rv.r.pts.length rv.c2) (.slice rv.A3 rv.r.secs.length rv.c3) (.int .i64 rv.r.app) (.int .i64 rv.r.len) (.slice rv.A4 rv.r.over.length rv.c4) (.slice rv.A5 rv.r.opts.length rv.c5) (.slice rv.A6 rv.r.osecs.length rv.c6) (.slice rv.A7 rv.r.flk.length rv.c7) (.slice rv.A8 rv.r.grd.length rv.c8) (.slice rv.A9 rv.r.gap.length rv.c9)
    refine wpAnyH_ready (rs := [11]) (by kernel_rfl) (by simp) (AllReadyH.cons (o := .mk _ _ _ _ _ _) rfl (fun K hK => ?_) AllReadyH.nil)
    go_simp
    refine hK.out _ _ ?_ (fun hHeld => ?_)
    · exact HSS.out _ hbP
    clear hK K
    try simp only [Act.put, lsa, lsz, lss]
    refine wpAnyH_done (by kernel_rfl) ?_ _
    clear uf u0 u1 u2 u3 u4 u5 u6 u7 u8 u9 u10 u11 u12 u13
    go_wp2_with fail
    have hbB : Below w2.heap.size w2 (put14 wq w2.heap.size (.string (bs rv.r.name)) (.int .i64 rv.r.ent) (.int .i64 rv.r.ext) (.slice rv.A1 rv.r.path.length rv.c1) (.slice rv.A2 rv.r.pts.length rv.c2) (.slice rv.A3 rv.r.secs.length rv.c3) (.int .i64 rv.r.app) (.int .i64 rv.r.len) (.slice rv.A4 rv.r.over.length rv.c4) (.slice rv.A5 rv.r.opts.length rv.c5) (.slice rv.A6 rv.r.osecs.length rv.c6) (.slice rv.A7 rv.r.flk.length rv.c7) (.slice rv.A8 rv.r.grd.length rv.c8) (.slice rv.A9 rv.r.gap.length rv.c9)) := hbP
    have b15 := put14_blk bz14 (.string (bs rv.r.name)) (.int .i64 rv.r.ent) (.int .i64 rv.r.ext) (.slice rv.A1 rv.r.path.length rv.c1) (.slice rv.A2 rv.r.pts.length rv.c2) (.slice rv.A3 rv.r.secs.length rv.c3) (.int .i64 rv.r.app) (.int .i64 rv.r.len) (.slice rv.A4 rv.r.over.length rv.c4) (.slice rv.A5 rv.r.opts.length rv.c5) (.slice rv.A6 rv.r.osecs.length rv.c6) (.slice rv.A7 rv.r.flk.length rv.c7) (.slice rv.A8 rv.r.grd.length rv.c8) (.slice rv.A9 rv.r.gap.length rv.c9)
    have hsz3 : (put14 wq w2.heap.size (.string (bs rv.r.name)) (.int .i64 rv.r.ent) (.int .i64 rv.r.ext) (.slice rv.A1 rv.r.path.length rv.c1) (.slice rv.A2 rv.r.pts.length rv.c2) (.slice rv.A3 rv.r.secs.length rv.c3) (.int .i64 rv.r.app) (.int .i64 rv.r.len) (.slice rv.A4 rv.r.over.length rv.c4) (.slice rv.A5 rv.r.opts.length rv.c5) (.slice rv.A6 rv.r.osecs.length rv.c6) (.slice rv.A7 rv.r.flk.length rv.c7) (.slice rv.A8 rv.r.grd.length rv.c8) (.slice rv.A9 rv.r.gap.length rv.c9)).heap.size = wq.heap.size := put14_size _ _ _ _ _ _ _ _ _ _ _ _ _ _ _ _
    have hrvq : RvR (put14 wq w2.heap.size (.string (bs rv.r.name)) (.int .i64 rv.r.ent) (.int .i64 rv.r.ext) (.slice rv.A1 rv.r.path.length rv.c1) (.slice rv.A2 rv.r.pts.length rv.c2) (.slice rv.A3 rv.r.secs.length rv.c3) (.int .i64 rv.r.app) (.int .i64 rv.r.len) (.slice rv.A4 rv.r.over.length rv.c4) (.slice rv.A5 rv.r.opts.length rv.c5) (.slice rv.A6 rv.r.osecs.length rv.c6) (.slice rv.A7 rv.r.flk.length rv.c7) (.slice rv.A8 rv.r.grd.length rv.c8) (.slice rv.A9 rv.r.gap.length rv.c9)) (OutW (put14 wq w2.heap.size (.string (bs rv.r.name)) (.int .i64 rv.r.ent) (.int .i64 rv.r.ext) (.slice rv.A1 rv.r.path.length rv.c1) (.slice rv.A2 rv.r.pts.length rv.c2) (.slice rv.A3 rv.r.secs.length rv.c3) (.int .i64 rv.r.app) (.int .i64 rv.r.len) (.slice rv.A4 rv.r.over.length rv.c4) (.slice rv.A5 rv.r.opts.length rv.c5) (.slice rv.A6 rv.r.osecs.length rv.c6) (.slice rv.A7 rv.r.flk.length rv.c7) (.slice rv.A8 rv.r.grd.length rv.c8) (.slice rv.A9 rv.r.gap.length rv.c9)) N w.heap.size) rv := (hrv9.keep fun p hp => cell_same (put14_far _ _ _ _ _ _ _ _ _ _ _ _ _ _ _ _ p.block (by (rcases hp with h | h; have := h.1; omega; have h1 := h.1; rw [hwz] at h1; omega)))).more fun b hb => by (rcases hb with h | h; exact ⟨by have := h.1; omega, h.2.1, h.2.2.1, h.2.2.2⟩; have h1 := h.1; rw [hwz] at h1; exact ⟨by have := h.2; omega, by omega, by omega, fun hn => by have := hNl b hn; omega⟩)
    have hge0 := hsq
    clear hrv9 hq9 hq9' hHeld hbP bz14 hwz
    unfold put14 at hbB b15 hrvq hsz3
    generalize ((((((((((((((wq.setCell ⟨w2.heap.size, 0, none⟩ (.string (bs rv.r.name))).setCell ⟨w2.heap.size, 1, none⟩ (.int .i64 rv.r.ent)).setCell ⟨w2.heap.size, 2, none⟩ (.int .i64 rv.r.ext)).setCell ⟨w2.heap.size, 3, none⟩ (.slice rv.A1 rv.r.path.length rv.c1)).setCell ⟨w2.heap.size, 4, none⟩ (.slice rv.A2 rv.r.pts.length rv.c2)).setCell ⟨w2.heap.size, 5, none⟩ (.slice rv.A3 rv.r.secs.length rv.c3)).setCell ⟨w2.heap.size, 6, none⟩ (.int .i64 rv.r.app)).setCell ⟨w2.heap.size, 7, none⟩ (.int .i64 rv.r.len)).setCell ⟨w2.heap.size, 8, none⟩ (.slice rv.A4 rv.r.over.length rv.c4)).setCell ⟨w2.heap.size, 9, none⟩ (.slice rv.A5 rv.r.opts.length rv.c5)).setCell ⟨w2.heap.size, 10, none⟩ (.slice rv.A6 rv.r.osecs.length rv.c6)).setCell ⟨w2.heap.size, 11, none⟩ (.slice rv.A7 rv.r.flk.length rv.c7)).setCell ⟨w2.heap.size, 12, none⟩ (.slice rv.A8 rv.r.grd.length rv.c8)).setCell ⟨w2.heap.size, 13, none⟩ (.slice rv.A9 rv.r.gap.length rv.c9)) = W3 at *
    obtain ⟨g15, hg15⟩ : ∃ g, g = w2.heap.size := ⟨_, rfl⟩
    rw [← hg15] at b15 ⊢
    have hge : w2.heap.size ≤ g15 := by omega
    clear hg15
    all_goals (
      clear HSS HWI
      have bx3 := hx2.now hbB
      have bz3 := hz2.now hbB
      have hB3 := bel_then hB2 (Nat.le_of_lt hlx) hbB
      have hl15 := b15.lt
      have hs3 := hbB.size
      have hC : C23 W3 N w.heap.size g15 v m rv := ⟨by omega, hl15, by omega, b15, (HRD1.out.keep fun p hp => hB3.cell hp.1).more fun b hb => (by have h1 := hb.1; have h2 := hb.2; exact ⟨by omega, by omega, by omega, h2⟩), hrvq, HM.out, by have := HM.out; have := HTV.out.n1.2; omega, by have := HM.out; omega⟩
      clear b15 hrvq
      refine wp_region_inv (ops := opsX) (by kernel_rfl) (by kernel_rfl) (I23 W3 N w.heap.size g15 v m rv) (I23.zero _ rfl rfl rfl rfl rfl rfl rfl bx3) (fun listed a w h => h.sz) ?_ ?_
      · intro listed a w1 i hI hi hl hd
        have hc : i = 0 ∨ i = 1 ∨ i = 2 ∨ i = 3 ∨ i = 4 ∨ i = 5 ∨ i = 6 ∨ i = 7 ∨ i = 8 ∨ i = 9 ∨ i = 10 := by have : i < 11 := hi; omega
        rcases hc with rfl | rfl | rfl | rfl | rfl | rfl | rfl | rfl | rfl | rfl | rfl
        · exact stX_0 hI hC hl
        · exact stX_1 hI hC hl
        · exact stX_2 hI hC hl (edge hd rfl 0 rfl rfl)
        · exact stX_3 hI hC hl
        · exact stX_4 hI hC hl (edge hd rfl 0 rfl rfl) (edge hd rfl 1 rfl rfl)
        · exact stX_5 hI hC hl (edge hd rfl 0 rfl rfl) (edge hd rfl 1 rfl rfl)
        · exact stX_6 hI hC hl
        · exact stX_7 hI hC hl (edge hd rfl 0 rfl rfl)
        · exact stX_8 hI hC hl (edge hd rfl 0 rfl rfl) (edge hd rfl 1 rfl rfl)
        · exact stX_9 hI hC hl
        · exact stX_10 hI hC hl (edge hd rfl 0 rfl rfl) (edge hd rfl 1 rfl rfl) (edge_all hd)
      · intro listed aa w1 hI hall
        obtain ⟨A9, c9, bx9, hlo9⟩ := hI.b1 (hall 10 (by decide))
        have e2 := hI.t2
        have e4 := hI.t4
        have e13 := hI.t13
        rw [ev_eq] at e2 e4 e13
        have hdf := hI.df
        have hts := hI.ts
        have bz9 := (hI.old (w.heap.size + 1) (by omega) (by omega)).trans bz3
        have bz9' : Blk w1 (w.heap.size + 1) 25 #[.slice none 0 0, .slice none 0 0, .slice none 0 0, .int .i64 0, .int .i64 0] := bz9
        have hB9 := hB3.trans hI.bel
        have hs9 := hI.bel.size
        clear hI hall bz9 hC
        obtain ⟨tm, df⟩ := aa
        dsimp only at e2 e4 e13 hdf hts
        have hts4 : 124 < tm.size := by omega
        have hts5 : 125 < tm.size := by omega
        clear hts
        subst hdf
        have hlen : (v.t.rts.take m ++ [rv.r]).length = m + 1 := by rw [List.length_append, List.length_take, HM.out, List.length_singleton]; omega
        have hBf : Below w.heap.size w (put5 w1 (w.heap.size + 1) (.slice A9 (m + 1) c9) (.slice v.A2 v.t.pts.length v.c2) (.slice v.A3 v.t.homes.length v.c3) (.int .i64 v.t.nsec) (.int .i64 v.t.nsig)) := put5_low hB9 (Nat.le_succ _) _ _ _ _ _
        have hXV : Xt (put5 w1 (w.heap.size + 1) (.slice A9 (m + 1) c9) (.slice v.A2 v.t.pts.length v.c2) (.slice v.A3 v.t.homes.length v.c3) (.int .i64 v.t.nsec) (.int .i64 v.t.nsig)) base N { v with t := { v.t with rts := v.t.rts.take m ++ [rv.r] }, A1 := A9, c1 := c9 } := by
          have h1 := hlo9.same (w' := (put5 w1 (w.heap.size + 1) (.slice A9 (m + 1) c9) (.slice v.A2 v.t.pts.length v.c2) (.slice v.A3 v.t.homes.length v.c3) (.int .i64 v.t.nsec) (.int .i64 v.t.nsig))) (fun b hb => put5_far _ _ _ _ _ _ _ _ (hlo9.ne bz9' (by decide) b hb)) (fun b hb => put5_far _ _ _ _ _ _ _ _ hb.2.2.1) (by rw [put5_size]; exact Nat.le_refl _)
          have h2 := HX0.out.now hBf
          exact ⟨⟨W3.heap.size, OutW W3 N w.heap.size, by omega, fun b hb => ⟨hb.1, hb.2.2.2⟩, by rw [hlen]; exact h1⟩, h2.r2, h2.r3, h2.ap, h2.i1, h2.i2, h2.le⟩
        have HTW : Hid (tvA { v with t := { v.t with rts := v.t.rts.take m ++ [rv.r] }, A1 := A9, c1 := c9 } = .agg #[.slice A9 (m + 1) c9, .slice v.A2 v.t.pts.length v.c2, .slice v.A3 v.t.homes.length v.c3, .int .i64 v.t.nsec, .int .i64 v.t.nsig]) := Lib.hid (by unfold tvA; dsimp only; rw [hlen])
        rw [← HRR.out] at HX
        clear hlo9 hlen
        have x0 := bx9.cell 0
        have z0 := bz9'.cell 0
        have x1 := bx9.cell 1
        have z1 := bz9'.cell 1
        have x2 := bx9.cell 2
        have z2 := bz9'.cell 2
        have x3 := bx9.cell 3
        have z3 := bz9'.cell 3
        have x4 := bx9.cell 4
        have z4 := bz9'.cell 4
        simp only [List.getElem?_toArray, List.getElem?_cons_zero, List.getElem?_cons_succ] at x0 x1 x2 x3 x4 z0 z1 z2 z3 z4
        have zf := bz9'.free
        have yf := bx9.free
        have HP := Lib.hid ((⟨{ v with t := { v.t with rts := v.t.rts.take m ++ [rv.r] }, A1 := A9, c1 := c9 }, by rw [HTW.out, HX.out]; rfl, hBf.mono hle, Lib.hid (fun b cs h => h.now hBf), Lib.hid fun x hx => by rw [HX.out] at hx; cases hx; exact ⟨rfl, hXV⟩⟩ : ExtP w base N (listT v.t k a) (.returned (.tuple #[.agg #[.slice A9 (m + 1) c9, .slice v.A2 v.t.pts.length v.c2, .slice v.A3 v.t.homes.length v.c3, .int .i64 v.t.nsec, .int .i64 v.t.nsig], .bool true])) (put5 w1 (w.heap.size + 1) (.slice A9 (m + 1) c9) (.slice v.A2 v.t.pts.length v.c2) (.slice v.A3 v.t.homes.length v.c3) (.int .i64 v.t.nsec) (.int .i64 v.t.nsig))))
        clear hXV bx9 bz9' hBf hB9 hB3 bx3 bz3 hx2 hz2 HC
        go_wp2_with fail
        exact bodyPost_ret (v := .tuple #[.agg #[.slice A9 (m + 1) c9, .slice v.A2 v.t.pts.length v.c2, .slice v.A3 v.t.homes.length v.c3, .int .i64 v.t.nsec, .int .i64 v.t.nsig], .bool true]) (by simp [results, Tryz.results30, go_sem, e4, z0, z1, z2, z3, z4]; intro h; exact absurd h (by omega)) rfl HP.out)
end Go.Proofs.YtlblfblkallnhaaGreatDoor
