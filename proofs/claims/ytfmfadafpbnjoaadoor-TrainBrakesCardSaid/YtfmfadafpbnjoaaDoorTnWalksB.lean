/- How trains lie in memory; the walks of Check and its reference. -/
import Derived.Test.YtfmfadafpbnjoaaDoorTnWalksA
import Derived.Test.YtfmfadafpbnjoaaDoorWdWalksG
import Derived.StillTailTactics
import Derived.Deep.RegionHeld3
import Derived.Deep.Cut
import Derived.IntWalk
import Derived.Test.YtfmfadafpbnjoaaDoorBlk
namespace Go.Proofs.YtfmfadafpbnjoaaDoor
set_option linter.unusedVariables false
set_option linter.unusedSimpArgs false
open Go.RowKit
attribute [local go_sem] bs_size bs_get bs_append bs_extract bs_toList
def trnV (t : Trn) : List Value := [.int .i64 t.id, .string (bs t.name), .int .i64 t.len, .int .i64 t.spd, .int .i64 t.acc, .int .i64 t.srv, .int .i64 t.emg, .int .i64 t.dly, .int .i64 t.cst, .int .i64 t.rate]
def trnA (t : Trn) : Value := .agg #[.int .i64 t.id, .string (bs t.name), .int .i64 t.len, .int .i64 t.spd, .int .i64 t.acc, .int .i64 t.srv, .int .i64 t.emg, .int .i64 t.dly, .int .i64 t.cst, .int .i64 t.rate]
/-- What a program's train is. -/
def trnO (t : Trn) : Prop := (I64n t.id ∧ I64n t.len ∧ I64n t.spd ∧ I64n t.acc ∧ I64n t.srv ∧ I64n t.emg ∧ I64n t.dly ∧ I64n t.cst ∧ I64n t.rate) ∧ t.name.length ≤ maxLen
theorem fields_of {P : Program} {t : TypeId} {fs : Array Field} (h : P.underlying t = some (.struct fs)) : P.fieldsOf t = fs := by unfold Program.fieldsOf; rw [h]
theorem stoodT : Tryd.prog.stoodInHeld 23 = false := by kernel_rfl
theorem ne_no {x y : Trn} (h : x ≠ y) : decide (x = y) = false := decide_eq_false h
set_option maxHeartbeats 2000000 in
theorem eq_trn (w : World) (d : Nat) (x y : Trn) : (Op.equalIn (d + 2) 23 (.agg #[.int .i64 x.id, .string (bs x.name), .int .i64 x.len, .int .i64 x.spd, .int .i64 x.acc, .int .i64 x.srv, .int .i64 x.emg, .int .i64 x.dly, .int .i64 x.cst, .int .i64 x.rate]) (.agg #[.int .i64 y.id, .string (bs y.name), .int .i64 y.len, .int .i64 y.spd, .int .i64 y.acc, .int .i64 y.srv, .int .i64 y.emg, .int .i64 y.dly, .int .i64 y.cst, .int .i64 y.rate])).run Tryd.prog w = .ok (decide (x = y)) w := by
  have h3 := Tryd.underlying3
  have h9 := Tryd.underlying9
  have hf := fields_of Tryd.underlying23
  rw [run_equalIn_struct w (d + 1) 23 _ _ (by rw [hf, Tryd.underlying23]) stoodT, hf]
  obtain ⟨x0, x1, x2, x3, x4, x5, x6, x7, x8, x9⟩ := x
  obtain ⟨y0, y1, y2, y3, y4, y5, y6, y7, y8, y9⟩ := y
  by_cases e0 : x0 = y0
  case neg => simp [go_sem, e0]
  subst e0
  by_cases e1 : x1 = y1
  case neg => simp [go_sem, e1]
  subst e1
  by_cases e2 : x2 = y2
  case neg => simp [go_sem, e2]
  subst e2
  by_cases e3 : x3 = y3
  case neg => simp [go_sem, e3]
  subst e3
  by_cases e4 : x4 = y4
  case neg => simp [go_sem, e4]
  subst e4
  by_cases e5 : x5 = y5
  case neg => simp [go_sem, e5]
  subst e5
  by_cases e6 : x6 = y6
  case neg => simp [go_sem, e6]
  subst e6
  by_cases e7 : x7 = y7
  case neg => simp [go_sem, e7]
  subst e7
  by_cases e8 : x8 = y8
  case neg => simp [go_sem, e8]
  subst e8
  by_cases e9 : x9 = y9
  case neg => simp [go_sem, e9]
  subst e9
  simp [go_sem]
theorem clampW (n lo hi : Int) (w : World) : Calls Tryd.prog 39 #[.int .i64 n, .int .i64 lo, .int .i64 hi] w fun e w' => e = .returned (.int .i64 (clampF n lo hi)) ∧ w' = w := (clamp_any n lo hi w).mono fun _ _ ⟨h, hw⟩ => ⟨h, hw.symm⟩
theorem mixed : Tryd.prog.follows .mixedOrders = true := by kernel_rfl
attribute [-go_sem] run_equalIn_agg
set_option maxRecDepth 100000 in
set_option maxHeartbeats 4000000 in
theorem ranged_any (t : Trn) (w : World) : Calls Tryd.prog 28 #[trnA t] w fun e w' => e = .returned (trnA (rngT t)) ∧ Below w.heap.size w w' := by
  unfold trnA
  go_enter Tryd.func28, Tryd.ntmps28
  go_upto_region 1 with (fail)
  have hb1 : Below w.heap.size w (w.alloc (.cells (trnV t).toArray 23)) := (Below.refl _ _).alloc (Nat.le_refl _) _
  have hk1 : Blk ((w.alloc (.cells (trnV t).toArray 23)).alloc (.cells (trnV zT).toArray 23)) w.heap.size 23 (trnV t).toArray := (Blk.new w _ _ _ rfl).alloc _
  have hk2 : Blk ((w.alloc (.cells (trnV t).toArray 23)).alloc (.cells (trnV zT).toArray 23)) (w.heap.size + 1) 23 (trnV zT).toArray := Blk.new _ _ _ _ (by simp)
  have hB : Below w.heap.size w ((w.alloc (.cells (trnV t).toArray 23)).alloc (.cells (trnV zT).toArray 23)) := hb1.alloc (by simp) _
  have hW : ∃ W, (w.alloc (.cells (trnV t).toArray 23)).alloc (.cells (trnV zT).toArray 23) = W := ⟨_, rfl⟩
  obtain ⟨W, hW⟩ := hW
  rw [hW] at hk1 hk2 hB
  change Code.wp _ _ _ _ ((w.alloc (.cells (trnV t).toArray 23)).alloc (.cells (trnV zT).toArray 23))
  rw [hW]
  clear hW hb1
  have x0 : W.cell? ⟨w.heap.size, 0, none⟩ = some (.int .i64 t.id) := hk1.cell 0
  have x1 : W.cell? ⟨w.heap.size, 1, none⟩ = some (.string (bs t.name)) := hk1.cell 1
  have x2 : W.cell? ⟨w.heap.size, 2, none⟩ = some (.int .i64 t.len) := hk1.cell 2
  have x3 : W.cell? ⟨w.heap.size, 3, none⟩ = some (.int .i64 t.spd) := hk1.cell 3
  have x4 : W.cell? ⟨w.heap.size, 4, none⟩ = some (.int .i64 t.acc) := hk1.cell 4
  have x5 : W.cell? ⟨w.heap.size, 5, none⟩ = some (.int .i64 t.srv) := hk1.cell 5
  have x6 : W.cell? ⟨w.heap.size, 6, none⟩ = some (.int .i64 t.emg) := hk1.cell 6
  have x7 : W.cell? ⟨w.heap.size, 7, none⟩ = some (.int .i64 t.dly) := hk1.cell 7
  have x8 : W.cell? ⟨w.heap.size, 8, none⟩ = some (.int .i64 t.cst) := hk1.cell 8
  have x9 : W.cell? ⟨w.heap.size, 9, none⟩ = some (.int .i64 t.rate) := hk1.cell 9
  have z0 : W.cell? ⟨w.heap.size + 1, 0, none⟩ = some (.int .i64 0) := hk2.cell 0
  have f0 : W.frozen? ⟨w.heap.size + 1, 0, none⟩ = false := hk2.free 0
  have z1 : W.cell? ⟨w.heap.size + 1, 1, none⟩ = some (.string (bs [])) := hk2.cell 1
  have f1 : W.frozen? ⟨w.heap.size + 1, 1, none⟩ = false := hk2.free 1
  have z2 : W.cell? ⟨w.heap.size + 1, 2, none⟩ = some (.int .i64 0) := hk2.cell 2
  have f2 : W.frozen? ⟨w.heap.size + 1, 2, none⟩ = false := hk2.free 2
  have z3 : W.cell? ⟨w.heap.size + 1, 3, none⟩ = some (.int .i64 0) := hk2.cell 3
  have f3 : W.frozen? ⟨w.heap.size + 1, 3, none⟩ = false := hk2.free 3
  have z4 : W.cell? ⟨w.heap.size + 1, 4, none⟩ = some (.int .i64 0) := hk2.cell 4
  have f4 : W.frozen? ⟨w.heap.size + 1, 4, none⟩ = false := hk2.free 4
  have z5 : W.cell? ⟨w.heap.size + 1, 5, none⟩ = some (.int .i64 0) := hk2.cell 5
  have f5 : W.frozen? ⟨w.heap.size + 1, 5, none⟩ = false := hk2.free 5
  have z6 : W.cell? ⟨w.heap.size + 1, 6, none⟩ = some (.int .i64 0) := hk2.cell 6
  have f6 : W.frozen? ⟨w.heap.size + 1, 6, none⟩ = false := hk2.free 6
  have z7 : W.cell? ⟨w.heap.size + 1, 7, none⟩ = some (.int .i64 0) := hk2.cell 7
  have f7 : W.frozen? ⟨w.heap.size + 1, 7, none⟩ = false := hk2.free 7
  have z8 : W.cell? ⟨w.heap.size + 1, 8, none⟩ = some (.int .i64 0) := hk2.cell 8
  have f8 : W.frozen? ⟨w.heap.size + 1, 8, none⟩ = false := hk2.free 8
  have z9 : W.cell? ⟨w.heap.size + 1, 9, none⟩ = some (.int .i64 0) := hk2.cell 9
  have f9 : W.frozen? ⟨w.heap.size + 1, 9, none⟩ = false := hk2.free 9
  refine wp_region_still_tail 32 mixed (by kernel_rfl) ?_
  change wpStill _ _ W.drew (fun a' => wpList _ _ _ _ a' W.drew) _ _
  simp only [List.take_succ_cons, List.take_zero, List.drop_succ_cons, List.drop_zero]
  repeat (first | (still_call (clampW _ _ _ _)) | still_step)
  refine wpStill_nil ?_
  clear hk1 hk2 x0 x1 x2 x3 x4 x5 x6 x7 x8 x9
  go_wp2_with fail
  exact bodyPost_ret (v := .agg #[.int .i64 (clampF t.id 1 99), .string (bs t.name), .int .i64 (clampF t.len 1 50000), .int .i64 (clampF t.spd 1 10000), .int .i64 (clampF t.acc 1 200), .int .i64 (clampF t.srv 1 200), .int .i64 (clampF t.emg t.srv 200), .int .i64 (clampF t.dly 0 5), .int .i64 (clampF t.cst 0 500), .int .i64 (clampF t.rate 0 100)]) (by simp [results, Tryd.results28, go_sem, z0, z1, z2, z3, z4, z5, z6, z7, z8, z9]) rfl ⟨rfl, by (repeat' (first | (with_reducible exact Below.refl _ _) | (with_reducible assumption) | (with_reducible refine Below.drewN ?_ _) | (with_reducible refine Below.drew ?_) | (with_reducible refine Below.alloc ?_ ?_ _) | (with_reducible refine Below.setCell ?_ ?_ _) | (with_reducible exact Nat.le_refl _) | (with_reducible exact Below.size (by assumption)) | omega | (simp only [World.size_alloc, World.size_setCell, World.size_drew]; omega) | (simp; done) | (simp; omega)))⟩
/-- What is known of a train's box. -/
def TS (w0 : World) (g : Nat) (t : Trn) (w' : World) : Prop := w'.cell? ⟨g, 0, none⟩ = some (.int .i64 t.id) ∧ w'.cell? ⟨g, 1, none⟩ = some (.string (bs t.name)) ∧ w'.cell? ⟨g, 2, none⟩ = some (.int .i64 t.len) ∧ w'.cell? ⟨g, 3, none⟩ = some (.int .i64 t.spd) ∧ w'.cell? ⟨g, 4, none⟩ = some (.int .i64 t.acc) ∧ w'.cell? ⟨g, 5, none⟩ = some (.int .i64 t.srv) ∧ w'.cell? ⟨g, 6, none⟩ = some (.int .i64 t.emg) ∧ w'.cell? ⟨g, 7, none⟩ = some (.int .i64 t.dly) ∧ w'.cell? ⟨g, 8, none⟩ = some (.int .i64 t.cst) ∧ w'.cell? ⟨g, 9, none⟩ = some (.int .i64 t.rate) ∧ (Below w0.heap.size w0 w' ∧ g < w'.heap.size)
theorem TS.now {w0 w w' : World} {g : Nat} {t : Trn} (h : TS w0 g t w) (hb : Below w.heap.size w w') : TS w0 g t w' := by
  obtain ⟨h0, h1, h2, h3, h4, h5, h6, h7, h8, h9, h10, h11⟩ := h
  have k : ∀ q, w'.cell? ⟨g, q, none⟩ = w.cell? ⟨g, q, none⟩ := fun q => hb.cell (p := ⟨g, q, none⟩) h11
  exact ⟨(k 0).trans h0, (k 1).trans h1, (k 2).trans h2, (k 3).trans h3, (k 4).trans h4, (k 5).trans h5, (k 6).trans h6, (k 7).trans h7, (k 8).trans h8, (k 9).trans h9, bel_then h10 h10.size hb, Nat.lt_of_lt_of_le h11 hb.size⟩
theorem ts_drew {w0 w : World} {g : Nat} {t : Trn} (h : TS w0 g t w) : TS w0 g t w.drew := h.now (Below.refl _ _).drew
theorem TS.bel {w0 w : World} {g : Nat} {t : Trn} (h : TS w0 g t w) : Below w0.heap.size w0 w := h.2.2.2.2.2.2.2.2.2.2.1
theorem TS.new (w : World) (t : Trn) (g : Nat) (hg : g = w.heap.size) : TS w g t (w.alloc (.cells #[.int .i64 t.id, .string (bs t.name), .int .i64 t.len, .int .i64 t.spd, .int .i64 t.acc, .int .i64 t.srv, .int .i64 t.emg, .int .i64 t.dly, .int .i64 t.cst, .int .i64 t.rate] 23)) := by
  have h := Blk.new w 23 #[.int .i64 t.id, .string (bs t.name), .int .i64 t.len, .int .i64 t.spd, .int .i64 t.acc, .int .i64 t.srv, .int .i64 t.emg, .int .i64 t.dly, .int .i64 t.cst, .int .i64 t.rate] g hg
  exact ⟨h.cell 0, h.cell 1, h.cell 2, h.cell 3, h.cell 4, h.cell 5, h.cell 6, h.cell 7, h.cell 8, h.cell 9, (Below.refl _ _).alloc (Nat.le_refl _) _, h.lt⟩
theorem chk_name {t : Trn} (h : nameB t.name = false) : chkF t = 3 := by unfold chkF; rw [if_pos h]
theorem chk_rng {t : Trn} {b : Bool} (h : nameB t.name = true) (hb : decide (t = rngT t) = b) : chkF t = if b then 0 else 1 := by
  unfold chkF
  rw [if_neg (by simp [h]), ← rngT_iff, hb]
theorem nameC {s : List UInt8} {b : Bool} (h : nameB s = b) (w : World) (hs : s.length ≤ maxLen) : Calls Tryd.prog 27 #[.string (bs s)] w fun e w' => e = .returned (.bool b) ∧ Below w.heap.size w w' := h ▸ name_any s w hs
theorem rnameC {s : List UInt8} {b : Bool} (h : nameB s = b) (w : World) (hs : s.length ≤ maxLen) : Calls Tryd.prog 29 #[.string (bs s)] w fun e w' => e = .returned (.bool b) ∧ w = w' := h ▸ rname_any s w hs
set_option maxRecDepth 100000 in
set_option maxHeartbeats 4000000 in
theorem check_any (t : Trn) (w : World) (hn : t.name.length ≤ maxLen) : Calls Tryd.prog 12 #[trnA t] w fun e w' => e = .returned (.int .i64 (chkF t)) ∧ Below w.heap.size w w' := by
  have hts := TS.new w t w.heap.size rfl
  cases hnm : nameB t.name with
  | false =>
    have HC := Lib.hid (chk_name hnm)
    have HN := Lib.hid hnm
    clear hnm
    unfold trnA
    go_enter Tryd.func12, Tryd.ntmps12
    go_wp2_with fail
    refine (nameC HN.out _ hn).mono ?_
    rintro e w1 ⟨rfl, hb1⟩
    have hts1 := hts.now hb1
    go_wp2_with fail
    go_ret
    exact ⟨ret_iT HC.out.symm, hts1.bel⟩
  | true =>
    have HR := fun W => ranged_any t W
    cases hd : decide (t = rngT t) with
    | false =>
      have HC := Lib.hid (chk_rng hnm hd)
      have HN := Lib.hid hnm
      have heq : ∀ W, (Op.equalIn 10000 23 (trnA t) (trnA (rngT t))).run Tryd.prog W = .ok false W := fun W => by rw [← hd]; exact eq_trn W 9998 t (rngT t)
      clear hnm hd
      unfold trnA at heq HR ⊢
      generalize rngT t = u at heq HR
      go_enter Tryd.func12, Tryd.ntmps12
      go_wp2_with fail
      refine (nameC HN.out _ hn).mono ?_
      rintro e w1 ⟨rfl, hb1⟩
      have hts1 := hts.now hb1
      clear hts hb1
      generalize hgg : w.heap.size = g at hts1
      go_wp2_with fail
      go_region_held3 (fun w' => w'.cell? ⟨g, 0, none⟩ = some (.int .i64 t.id) ∧ w'.cell? ⟨g, 1, none⟩ = some (.string (bs t.name)) ∧ w'.cell? ⟨g, 2, none⟩ = some (.int .i64 t.len) ∧ w'.cell? ⟨g, 3, none⟩ = some (.int .i64 t.spd) ∧ w'.cell? ⟨g, 4, none⟩ = some (.int .i64 t.acc) ∧ w'.cell? ⟨g, 5, none⟩ = some (.int .i64 t.srv) ∧ w'.cell? ⟨g, 6, none⟩ = some (.int .i64 t.emg) ∧ w'.cell? ⟨g, 7, none⟩ = some (.int .i64 t.dly) ∧ w'.cell? ⟨g, 8, none⟩ = some (.int .i64 t.cst) ∧ w'.cell? ⟨g, 9, none⟩ = some (.int .i64 t.rate) ∧ (Below w.heap.size w w' ∧ g < w'.heap.size)) (first | assumption | exact ts_drew ‹_› | (refine TS.now ‹_› ?_; assumption)) (first | (go_at_call 28; refine (HR _).mono ?_; rintro e wq ⟨rfl, hq⟩))
      all_goals (go_wp2_with fail)
      all_goals (go_ret; exact ⟨ret_iT HC.out.symm, TS.bel (by assumption)⟩)
    | true =>
      have HC := Lib.hid (chk_rng hnm hd)
      have HN := Lib.hid hnm
      have heq : ∀ W, (Op.equalIn 10000 23 (trnA t) (trnA (rngT t))).run Tryd.prog W = .ok true W := fun W => by rw [← hd]; exact eq_trn W 9998 t (rngT t)
      clear hnm hd
      unfold trnA at heq HR ⊢
      generalize rngT t = u at heq HR
      go_enter Tryd.func12, Tryd.ntmps12
      go_wp2_with fail
      refine (nameC HN.out _ hn).mono ?_
      rintro e w1 ⟨rfl, hb1⟩
      have hts1 := hts.now hb1
      clear hts hb1
      generalize hgg : w.heap.size = g at hts1
      go_wp2_with fail
      go_region_held3 (fun w' => w'.cell? ⟨g, 0, none⟩ = some (.int .i64 t.id) ∧ w'.cell? ⟨g, 1, none⟩ = some (.string (bs t.name)) ∧ w'.cell? ⟨g, 2, none⟩ = some (.int .i64 t.len) ∧ w'.cell? ⟨g, 3, none⟩ = some (.int .i64 t.spd) ∧ w'.cell? ⟨g, 4, none⟩ = some (.int .i64 t.acc) ∧ w'.cell? ⟨g, 5, none⟩ = some (.int .i64 t.srv) ∧ w'.cell? ⟨g, 6, none⟩ = some (.int .i64 t.emg) ∧ w'.cell? ⟨g, 7, none⟩ = some (.int .i64 t.dly) ∧ w'.cell? ⟨g, 8, none⟩ = some (.int .i64 t.cst) ∧ w'.cell? ⟨g, 9, none⟩ = some (.int .i64 t.rate) ∧ (Below w.heap.size w w' ∧ g < w'.heap.size)) (first | assumption | exact ts_drew ‹_› | (refine TS.now ‹_› ?_; assumption)) (first | (go_at_call 28; refine (HR _).mono ?_; rintro e wq ⟨rfl, hq⟩))
      all_goals (go_wp2_with fail)
      all_goals (go_ret; exact ⟨ret_iT HC.out.symm, TS.bel (by assumption)⟩)
end Go.Proofs.YtfmfadafpbnjoaaDoor
