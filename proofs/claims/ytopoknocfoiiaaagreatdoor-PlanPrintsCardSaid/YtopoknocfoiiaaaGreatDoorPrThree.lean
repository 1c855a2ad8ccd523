/- The reference's Check. The walk of the reference's Print. The walk of the law PlanPrints. -/
import Derived.Test.YtopoknocfoiiaaaGreatDoorPrTwo
import Derived.Test.YtopoknocfoiiaaaGreatDoorPrOne
import Derived.Test.YtopoknocfoiiaaaGreatDoorPlAliveB
namespace Go.Proofs.YtopoknocfoiiaaaGreatDoor
set_option linter.unusedVariables false
set_option linter.unusedSimpArgs false
open Go.RowKit
attribute [local go_sem] bs_size bs_get bs_append bs_extract bs_toList
attribute [-go_sem] run_equalIn_agg
theorem chkR (l : Lay) : chkL l = if nmdC l ≠ 0 then nmdC l else if elsC l ≠ 0 then elsC l else if sgC l ≠ 0 then sgC l else blC l := by
  unfold chkL nmdC elsC
  by_cases h1 : cntB l = false
  · simp [h1]
  · by_cases h2 : nmC l = 0
    · by_cases h3 : elB l = false
      · simp [h1, h2, h3]
      · simp [h1, h2, h3]
    · simp [h1, h2]
theorem chkR1 {l : Lay} {c : Int} (h : nmdC l = c) (h0 : c ≠ 0) : chkL l = c := by subst h; rw [chkR, if_pos h0]
theorem chkR2 {l : Lay} {c : Int} (h1 : nmdC l = 0) (h : elsC l = c) (h0 : c ≠ 0) : chkL l = c := by subst h; rw [chkR, if_neg (by simp [h1]), if_pos h0]
theorem chkR3 {l : Lay} {c : Int} (h1 : nmdC l = 0) (h2 : elsC l = 0) (h : sgC l = c) (h0 : c ≠ 0) : chkL l = c := by subst h; rw [chkR, if_neg (by simp [h1]), if_neg (by simp [h2]), if_pos h0]
theorem chkR4 {l : Lay} (h1 : nmdC l = 0) (h2 : elsC l = 0) (h3 : sgC l = 0) : chkL l = blC l := by rw [chkR, if_neg (by simp [h1]), if_neg (by simp [h2]), if_neg (by simp [h3])]
theorem els_jts {l : Lay} (h : elsC l = 0) : l.jts.all (jntB l) = true := by
  unfold elsC at h
  split at h
  · simp at h
  · exact (jnC_ok h).1
theorem nmdCC (v : LV) {c : Int} (h : nmdC v.l = c) (w : World) (hr : LvR w v) : Calls Tryz.prog 40 #[lvA v] w fun e w' => e = .returned (.int .i64 c) ∧ Below w.heap.size w w' := h ▸ rnamed_any v w hr
theorem elsCC (v : LV) (hm2 : v.l.els.length ≤ 1000) (hm3 : v.l.jts.length ≤ 1000) {c : Int} (h : elsC v.l = c) (w : World) (hr : LvR w v) : Calls Tryz.prog 41 #[lvA v] w fun e w' => e = .returned (.int .i64 c) ∧ Below w.heap.size w w' := h ▸ relements_any v w hr hm2 hm3
theorem sgCC (v : LV) (hm4 : v.l.sgs.length ≤ 1000) (hj : v.l.jts.all (jntB v.l) = true) {c : Int} (h : sgC v.l = c) (w : World) (hr : LvR w v) : Calls Tryz.prog 42 #[lvA v] w fun e w' => e = .returned (.int .i64 c) ∧ Below w.heap.size w w' := h ▸ rsignals_any v w hr hm4 hj
set_option maxRecDepth 100000 in
set_option maxHeartbeats 16000000 in
theorem rcheck_any (v : LV) (w : World) (hr : LvR w v) (hm2 : v.l.els.length ≤ 1000) (hm3 : v.l.jts.length ≤ 1000) (hm4 : v.l.sgs.length ≤ 1000) (hm5 : v.l.bls.length ≤ 1000) : Calls Tryz.prog 16 #[lvA v] w fun e w' => e = .returned (.int .i64 (chkL v.l)) ∧ Below w.heap.size w w' := by
  have hb0 := Bx.new hr
  obtain ⟨c1, h1⟩ : ∃ c, nmdC v.l = c := ⟨_, rfl⟩
  have T1 := Lib.hid (nmdCC v h1)
  by_cases n1 : c1 = 0
  case neg =>
    have HX := Lib.hid (chkR1  h1 n1)
    have hne : (c1 != 0) = true := by simpa using n1
    clear h1 n1 hm2 hm3 hm4 hm5
    have x0 := hb0.x0
    have x1 := hb0.x1
    have x2 := hb0.x2
    have x3 := hb0.x3
    have x4 := hb0.x4
    have x5 := hb0.x5
    unfold lvA at *
    go_enter Tryz.func16, Tryz.ntmps16
    go_wp2_with fail
    refine (T1.out _ hb0.rd).mono ?_
    rintro e w1 ⟨rfl, hq1⟩
    have hb1 := hb0.now hq1
    clear x0 x1 x2 x3 x4 x5 hq1 hb0
    have x0 := hb1.x0
    have x1 := hb1.x1
    have x2 := hb1.x2
    have x3 := hb1.x3
    have x4 := hb1.x4
    have x5 := hb1.x5
    go_wp2_with fail
    go_ret
    exact ⟨ret_iL HX.out.symm, hb1.bel⟩
  subst n1
  obtain ⟨c2, h2⟩ : ∃ c, elsC v.l = c := ⟨_, rfl⟩
  have T2 := Lib.hid (elsCC v hm2 hm3 h2)
  by_cases n2 : c2 = 0
  case neg =>
    have HX := Lib.hid (chkR2 h1 h2 n2)
    have hne : (c2 != 0) = true := by simpa using n2
    clear h1 h2 n2 hm2 hm3 hm4 hm5
    have x0 := hb0.x0
    have x1 := hb0.x1
    have x2 := hb0.x2
    have x3 := hb0.x3
    have x4 := hb0.x4
    have x5 := hb0.x5
    unfold lvA at *
    go_enter Tryz.func16, Tryz.ntmps16
    go_wp2_with fail
    refine (T1.out _ hb0.rd).mono ?_
    rintro e w1 ⟨rfl, hq1⟩
    have hb1 := hb0.now hq1
    clear x0 x1 x2 x3 x4 x5 hq1 hb0
    have x0 := hb1.x0
    have x1 := hb1.x1
    have x2 := hb1.x2
    have x3 := hb1.x3
    have x4 := hb1.x4
    have x5 := hb1.x5
    go_wp2_with fail
    refine (T2.out _ hb1.rd).mono ?_
    rintro e w2 ⟨rfl, hq2⟩
    have hb2 := hb1.now hq2
    clear x0 x1 x2 x3 x4 x5 hq2 hb1
    have x0 := hb2.x0
    have x1 := hb2.x1
    have x2 := hb2.x2
    have x3 := hb2.x3
    have x4 := hb2.x4
    have x5 := hb2.x5
    go_wp2_with fail
    go_ret
    exact ⟨ret_iL HX.out.symm, hb2.bel⟩
  subst n2
  obtain ⟨c3, h3⟩ : ∃ c, sgC v.l = c := ⟨_, rfl⟩
  have T3 := Lib.hid (sgCC v hm4 (els_jts h2) h3)
  by_cases n3 : c3 = 0
  case neg =>
    have HX := Lib.hid (chkR3 h1 h2 h3 n3)
    have hne : (c3 != 0) = true := by simpa using n3
    clear h1 h2 h3 n3 hm2 hm3 hm4 hm5
    have x0 := hb0.x0
    have x1 := hb0.x1
    have x2 := hb0.x2
    have x3 := hb0.x3
    have x4 := hb0.x4
    have x5 := hb0.x5
    unfold lvA at *
    go_enter Tryz.func16, Tryz.ntmps16
    go_wp2_with fail
    refine (T1.out _ hb0.rd).mono ?_
    rintro e w1 ⟨rfl, hq1⟩
    have hb1 := hb0.now hq1
    clear x0 x1 x2 x3 x4 x5 hq1 hb0
    have x0 := hb1.x0
    have x1 := hb1.x1
    have x2 := hb1.x2
    have x3 := hb1.x3
    have x4 := hb1.x4
    have x5 := hb1.x5
    go_wp2_with fail
    refine (T2.out _ hb1.rd).mono ?_
    rintro e w2 ⟨rfl, hq2⟩
    have hb2 := hb1.now hq2
    clear x0 x1 x2 x3 x4 x5 hq2 hb1
    have x0 := hb2.x0
    have x1 := hb2.x1
    have x2 := hb2.x2
    have x3 := hb2.x3
    have x4 := hb2.x4
    have x5 := hb2.x5
    go_wp2_with fail
    refine (T3.out _ hb2.rd).mono ?_
    rintro e w3 ⟨rfl, hq3⟩
    have hb3 := hb2.now hq3
    clear x0 x1 x2 x3 x4 x5 hq3 hb2
    have x0 := hb3.x0
    have x1 := hb3.x1
    have x2 := hb3.x2
    have x3 := hb3.x3
    have x4 := hb3.x4
    have x5 := hb3.x5
    go_wp2_with fail
    go_ret
    exact ⟨ret_iL HX.out.symm, hb3.bel⟩
  subst n3
  have HX := Lib.hid (chkR4 h1 h2 h3)
  have T4 := Lib.hid (fun W h => rbalises_any v W h hm5)
  clear h1 h2 h3 hm2 hm3 hm4 hm5
  have x0 := hb0.x0
  have x1 := hb0.x1
  have x2 := hb0.x2
  have x3 := hb0.x3
  have x4 := hb0.x4
  have x5 := hb0.x5
  unfold lvA at *
  go_enter Tryz.func16, Tryz.ntmps16
  go_wp2_with fail
  refine (T1.out _ hb0.rd).mono ?_
  rintro e w1 ⟨rfl, hq1⟩
  have hb1 := hb0.now hq1
  clear x0 x1 x2 x3 x4 x5 hq1 hb0
  have x0 := hb1.x0
  have x1 := hb1.x1
  have x2 := hb1.x2
  have x3 := hb1.x3
  have x4 := hb1.x4
  have x5 := hb1.x5
  go_wp2_with fail
  refine (T2.out _ hb1.rd).mono ?_
  rintro e w2 ⟨rfl, hq2⟩
  have hb2 := hb1.now hq2
  clear x0 x1 x2 x3 x4 x5 hq2 hb1
  have x0 := hb2.x0
  have x1 := hb2.x1
  have x2 := hb2.x2
  have x3 := hb2.x3
  have x4 := hb2.x4
  have x5 := hb2.x5
  go_wp2_with fail
  refine (T3.out _ hb2.rd).mono ?_
  rintro e w3 ⟨rfl, hq3⟩
  have hb3 := hb2.now hq3
  clear x0 x1 x2 x3 x4 x5 hq3 hb2
  have x0 := hb3.x0
  have x1 := hb3.x1
  have x2 := hb3.x2
  have x3 := hb3.x3
  have x4 := hb3.x4
  have x5 := hb3.x5
  go_wp2_with fail
  refine (T4.out _ hb3.rd).mono ?_
  rintro e w4 ⟨rfl, hq4⟩
  have hb4 := hb3.now hq4
  clear x0 x1 x2 x3 x4 x5 hq4 hb3
  have x0 := hb4.x0
  have x1 := hb4.x1
  have x2 := hb4.x2
  have x3 := hb4.x3
  have x4 := hb4.x4
  have x5 := hb4.x5
  go_wp2_with fail
  go_ret
  exact ⟨ret_iL HX.out.symm, hb4.bel⟩
end Go.Proofs.YtopoknocfoiiaaaGreatDoor
namespace Go.Proofs.YtopoknocfoiiaaaGreatDoor
set_option linter.unusedVariables false
set_option linter.unusedSimpArgs false
open Go.RowKit
attribute [local go_sem] bs_size bs_get bs_append bs_extract bs_toList
attribute [-go_sem] run_equalIn_agg
def R2 (w : World) (v : LV) (s : Value) (lns : Lns) (a2 : Option Addr) (q : Elt) (b o k : Nat) (W : World) : Prop := W.cell? ⟨w.heap.size, 0, none⟩ = some (.string (bs v.l.name)) ∧ W.cell? ⟨w.heap.size, 1, none⟩ = some (.slice v.A1 v.l.secs.length v.c1) ∧ W.cell? ⟨w.heap.size, 2, none⟩ = some (.slice a2 v.l.els.length v.c2) ∧ W.cell? ⟨w.heap.size, 3, none⟩ = some (.slice v.A3 v.l.jts.length v.c3) ∧ W.cell? ⟨w.heap.size, 4, none⟩ = some (.slice v.A4 v.l.sgs.length v.c4) ∧ W.cell? ⟨w.heap.size, 5, none⟩ = some (.slice v.A5 v.l.bls.length v.c5) ∧ W.cell? ⟨b, o + k * 7, none⟩ = some (.string (bs q.name)) ∧ W.cell? ⟨b, o + k * 7 + 1, none⟩ = some (.int .i64 q.kind) ∧ W.cell? ⟨b, o + k * 7 + 2, none⟩ = some (.int .i64 q.len) ∧ W.cell? ⟨b, o + k * 7 + 3, none⟩ = some (.int .i64 q.grd) ∧ W.cell? ⟨b, o + k * 7 + 4, none⟩ = some (.int .i64 q.spd) ∧ W.cell? ⟨b, o + k * 7 + 5, none⟩ = some (.int .i64 q.slow) ∧ W.cell? ⟨b, o + k * 7 + 6, none⟩ = some (.int .i64 q.sec) ∧ Ln w W v s lns
section
variable {w : World} {v : LV} {s : Value} {lns : Lns} {a2 : Option Addr} {q : Elt} {b o k : Nat} {W W' : World}
structure R2F (w : World) (v : LV) (a2 : Option Addr) (q : Elt) (b o k : Nat) : Prop where
  ha : v.A2 = a2
  hb : b < w.heap.size
  c0 : w.cell? ⟨b, o + k * 7, none⟩ = some (.string (bs q.name))
  c1 : w.cell? ⟨b, o + k * 7 + 1, none⟩ = some (.int .i64 q.kind)
  c2 : w.cell? ⟨b, o + k * 7 + 2, none⟩ = some (.int .i64 q.len)
  c3 : w.cell? ⟨b, o + k * 7 + 3, none⟩ = some (.int .i64 q.grd)
  c4 : w.cell? ⟨b, o + k * 7 + 4, none⟩ = some (.int .i64 q.spd)
  c5 : w.cell? ⟨b, o + k * 7 + 5, none⟩ = some (.int .i64 q.slow)
  c6 : w.cell? ⟨b, o + k * 7 + 6, none⟩ = some (.int .i64 q.sec)
theorem R2.mk (F : R2F w v a2 q b o k) (h : Ln w W v s lns) : R2 w v s lns a2 q b o k W := ⟨h.1.x0, h.1.x1, F.ha ▸ h.1.x2, h.1.x3, h.1.x4, h.1.x5, (h.bel.cell (p := ⟨b, o + k * 7, none⟩) F.hb).trans F.c0, (h.bel.cell (p := ⟨b, o + k * 7 + 1, none⟩) F.hb).trans F.c1, (h.bel.cell (p := ⟨b, o + k * 7 + 2, none⟩) F.hb).trans F.c2, (h.bel.cell (p := ⟨b, o + k * 7 + 3, none⟩) F.hb).trans F.c3, (h.bel.cell (p := ⟨b, o + k * 7 + 4, none⟩) F.hb).trans F.c4, (h.bel.cell (p := ⟨b, o + k * 7 + 5, none⟩) F.hb).trans F.c5, (h.bel.cell (p := ⟨b, o + k * 7 + 6, none⟩) F.hb).trans F.c6, h⟩
theorem R2.all (h : R2 w v s lns a2 q b o k W) : Ln w W v s lns := h.2.2.2.2.2.2.2.2.2.2.2.2.2
theorem R2.now (F : R2F w v a2 q b o k) (h : R2 w v s lns a2 q b o k W) (hb : Below W.heap.size W W') : R2 w v s lns a2 q b o k W' := R2.mk F (h.all.now hb)
end
def R3 (w : World) (v : LV) (s : Value) (lns : Lns) (ga gb : Nat) (q : Jnt) (ka kb : Nat) (W : World) : Prop := W.cell? ⟨w.heap.size, 0, none⟩ = some (.string (bs v.l.name)) ∧ W.cell? ⟨w.heap.size, 1, none⟩ = some (.slice v.A1 v.l.secs.length v.c1) ∧ W.cell? ⟨w.heap.size, 2, none⟩ = some (.slice v.A2 v.l.els.length v.c2) ∧ W.cell? ⟨w.heap.size, 3, none⟩ = some (.slice v.A3 v.l.jts.length v.c3) ∧ W.cell? ⟨w.heap.size, 4, none⟩ = some (.slice v.A4 v.l.sgs.length v.c4) ∧ W.cell? ⟨w.heap.size, 5, none⟩ = some (.slice v.A5 v.l.bls.length v.c5) ∧ W.cell? ⟨ga, 0, none⟩ = some (.int .i64 (ka : Int)) ∧ W.cell? ⟨ga, 1, none⟩ = some (.int .i64 q.a.sd) ∧ W.cell? ⟨gb, 0, none⟩ = some (.int .i64 (kb : Int)) ∧ W.cell? ⟨gb, 1, none⟩ = some (.int .i64 q.b.sd) ∧ (Ln w W v s lns ∧ Blk W ga 37 #[.int .i64 (ka : Int), .int .i64 q.a.sd] ∧ Blk W gb 37 #[.int .i64 (kb : Int), .int .i64 q.b.sd])
section
variable {w : World} {v : LV} {s : Value} {lns : Lns} {ga gb : Nat} {q : Jnt} {ka kb : Nat} {W W' : World}
theorem R3.mk (h : Ln w W v s lns) (hga : Blk W ga 37 #[.int .i64 (ka : Int), .int .i64 q.a.sd]) (hgb : Blk W gb 37 #[.int .i64 (kb : Int), .int .i64 q.b.sd]) : R3 w v s lns ga gb q ka kb W := ⟨h.1.x0, h.1.x1, h.1.x2, h.1.x3, h.1.x4, h.1.x5, hga.cell 0, hga.cell 1, hgb.cell 0, hgb.cell 1, h, hga, hgb⟩
theorem R3.all (h : R3 w v s lns ga gb q ka kb W) : Ln w W v s lns ∧ Blk W ga 37 #[.int .i64 (ka : Int), .int .i64 q.a.sd] ∧ Blk W gb 37 #[.int .i64 (kb : Int), .int .i64 q.b.sd] := h.2.2.2.2.2.2.2.2.2.2
theorem R3.now (h : R3 w v s lns ga gb q ka kb W) (hb : Below W.heap.size W W') : R3 w v s lns ga gb q ka kb W' := R3.mk (h.all.1.now hb) (h.all.2.1.now hb) (h.all.2.2.now hb)
theorem R3.push (h : R3 w v s lns ga gb q ka kb W) (hl : Ln w W' v s lns) (hf : Frm w.heap.size 22 W W') : R3 w v s lns ga gb q ka kb W' := R3.mk hl (hf.blk h.all.2.1 (by decide)) (hf.blk h.all.2.2 (by decide))
end
def R4 (w : World) (v : LV) (s : Value) (lns : Lns) (ga : Nat) (q : Sgn) (ka : Nat) (W : World) : Prop := W.cell? ⟨w.heap.size, 0, none⟩ = some (.string (bs v.l.name)) ∧ W.cell? ⟨w.heap.size, 1, none⟩ = some (.slice v.A1 v.l.secs.length v.c1) ∧ W.cell? ⟨w.heap.size, 2, none⟩ = some (.slice v.A2 v.l.els.length v.c2) ∧ W.cell? ⟨w.heap.size, 3, none⟩ = some (.slice v.A3 v.l.jts.length v.c3) ∧ W.cell? ⟨w.heap.size, 4, none⟩ = some (.slice v.A4 v.l.sgs.length v.c4) ∧ W.cell? ⟨w.heap.size, 5, none⟩ = some (.slice v.A5 v.l.bls.length v.c5) ∧ W.cell? ⟨ga, 0, none⟩ = some (.string (bs q.name)) ∧ W.cell? ⟨ga, 1, none⟩ = some (.int .i64 (ka : Int)) ∧ W.cell? ⟨ga, 2, none⟩ = some (.int .i64 q.pos.sd) ∧ W.cell? ⟨ga, 3, none⟩ = some (.int .i64 q.ovl) ∧ (Ln w W v s lns ∧ Blk W ga 41 #[.string (bs q.name), .int .i64 (ka : Int), .int .i64 q.pos.sd, .int .i64 q.ovl])
section
variable {w : World} {v : LV} {s : Value} {lns : Lns} {ga : Nat} {q : Sgn} {ka : Nat} {W W' : World}
theorem R4.mk (h : Ln w W v s lns) (hga : Blk W ga 41 #[.string (bs q.name), .int .i64 (ka : Int), .int .i64 q.pos.sd, .int .i64 q.ovl]) : R4 w v s lns ga q ka W := ⟨h.1.x0, h.1.x1, h.1.x2, h.1.x3, h.1.x4, h.1.x5, hga.cell 0, hga.cell 1, hga.cell 2, hga.cell 3, h, hga⟩
theorem R4.all (h : R4 w v s lns ga q ka W) : Ln w W v s lns ∧ Blk W ga 41 #[.string (bs q.name), .int .i64 (ka : Int), .int .i64 q.pos.sd, .int .i64 q.ovl] := h.2.2.2.2.2.2.2.2.2.2
theorem R4.now (h : R4 w v s lns ga q ka W) (hb : Below W.heap.size W W') : R4 w v s lns ga q ka W' := R4.mk (h.all.1.now hb) (h.all.2.now hb)
theorem R4.push (h : R4 w v s lns ga q ka W) (hl : Ln w W' v s lns) (hf : Frm w.heap.size 22 W W') : R4 w v s lns ga q ka W' := R4.mk hl (hf.blk h.all.2 (by decide))
end
def R5 (w : World) (v : LV) (s : Value) (lns : Lns) (ga : Nat) (q : Bls) (ka : Nat) (W : World) : Prop := W.cell? ⟨w.heap.size, 0, none⟩ = some (.string (bs v.l.name)) ∧ W.cell? ⟨w.heap.size, 1, none⟩ = some (.slice v.A1 v.l.secs.length v.c1) ∧ W.cell? ⟨w.heap.size, 2, none⟩ = some (.slice v.A2 v.l.els.length v.c2) ∧ W.cell? ⟨w.heap.size, 3, none⟩ = some (.slice v.A3 v.l.jts.length v.c3) ∧ W.cell? ⟨w.heap.size, 4, none⟩ = some (.slice v.A4 v.l.sgs.length v.c4) ∧ W.cell? ⟨w.heap.size, 5, none⟩ = some (.slice v.A5 v.l.bls.length v.c5) ∧ W.cell? ⟨ga, 0, none⟩ = some (.int .i64 q.id) ∧ W.cell? ⟨ga, 1, none⟩ = some (.int .i64 (ka : Int)) ∧ W.cell? ⟨ga, 2, none⟩ = some (.int .i64 q.off) ∧ (Ln w W v s lns ∧ Blk W ga 51 #[.int .i64 q.id, .int .i64 (ka : Int), .int .i64 q.off])
section
variable {w : World} {v : LV} {s : Value} {lns : Lns} {ga : Nat} {q : Bls} {ka : Nat} {W W' : World}
theorem R5.mk (h : Ln w W v s lns) (hga : Blk W ga 51 #[.int .i64 q.id, .int .i64 (ka : Int), .int .i64 q.off]) : R5 w v s lns ga q ka W := ⟨h.1.x0, h.1.x1, h.1.x2, h.1.x3, h.1.x4, h.1.x5, hga.cell 0, hga.cell 1, hga.cell 2, h, hga⟩
theorem R5.all (h : R5 w v s lns ga q ka W) : Ln w W v s lns ∧ Blk W ga 51 #[.int .i64 q.id, .int .i64 (ka : Int), .int .i64 q.off] := h.2.2.2.2.2.2.2.2.2
theorem R5.now (h : R5 w v s lns ga q ka W) (hb : Below W.heap.size W W') : R5 w v s lns ga q ka W' := R5.mk (h.all.1.now hb) (h.all.2.now hb)
theorem R5.push (h : R5 w v s lns ga q ka W) (hl : Ln w W' v s lns) (hf : Frm w.heap.size 22 W W') : R5 w v s lns ga q ka W' := R5.mk hl (hf.blk h.all.2 (by decide))
end
theorem rjoinLC {ls : Lns} {t : List UInt8} {x : Int} (h : joinF ls = (t, x)) (A : Option Addr) (cap : Nat) (w : World) (hr : RdS (cL cS) w (Lt w) A ls) (hl : ls.length ≤ 100000000) (hcn : cnt ls ≤ 100000000) :
    Calls Tryz.prog 21 #[.slice A ls.length cap] w fun e w' => e = .returned (.tuple #[.string (bs t), .int .i64 x]) ∧ w = w' := by
  have := rjoin_any ls A cap w hr hl hcn
  rw [h] at this
  exact this
theorem rcheckCC (v : LV) (hm2 : v.l.els.length ≤ 1000) (hm3 : v.l.jts.length ≤ 1000) (hm4 : v.l.sgs.length ≤ 1000) (hm5 : v.l.bls.length ≤ 1000) {c : Int} (h : chkL v.l = c) (w : World) (hr : LvR w v) : Calls Tryz.prog 16 #[lvA v] w fun e w' => e = .returned (.int .i64 c) ∧ Below w.heap.size w w' := h ▸ rcheck_any v w hr hm2 hm3 hm4 hm5
structure NmOf (v : LV) (k : Nat) (s : List UInt8) : Prop where
  lt : k < v.l.els.length
  nm : v.l.els[k].name = s
theorem rnmN (v : LV) {k : Nat} {s : List UInt8} (h : NmOf v k s) (w : World) (hr : LvR w v) : Calls Tryz.prog 18 #[lvA v, .int .i64 k] w fun e w' => e = .returned (.string (bs s)) ∧ Below w.heap.size w w' := h.nm ▸ rnm_any v k h.lt w hr
theorem rnmC (v : LV) {k : Nat} (hk : k < v.l.els.length) {s : List UInt8} (h : v.l.els[k].name = s) (w : World) (hr : LvR w v) : Calls Tryz.prog 18 #[lvA v, .int .i64 k] w fun e w' => e = .returned (.string (bs s)) ∧ Below w.heap.size w w' := h ▸ rnm_any v k hk w hr
theorem relC (v : LV) {x : Elt} (hx : eltB v.l x = true) (ho : eltO x) {ws : List (List UInt8)} (h : eltW v.l x = ws) (w : World) (hr : LvR w v) : Calls Tryz.prog 17 #[lvA v, .agg #[.string (bs x.name), .int .i64 x.kind, .int .i64 x.len, .int .i64 x.grd, .int .i64 x.spd, .int .i64 x.slow, .int .i64 x.sec]] w (RowP w ws) := h ▸ relt_any v x hx ho w hr
set_option maxRecDepth 100000 in
set_option maxHeartbeats 40000000 in
theorem rprint_any (v : LV) (w : World) (hr : LvR w v) (hm2 : v.l.els.length ≤ 1000) (hm3 : v.l.jts.length ≤ 1000) (hm4 : v.l.sgs.length ≤ 1000) (hm5 : v.l.bls.length ≤ 1000) : Calls Tryz.prog 7 #[lvA v] w fun e w' => e = .returned (.tuple #[.string (bs (prtL v.l).1), .int .i64 (prtL v.l).2]) ∧ Below w.heap.size w w' := by
  have hb0 := Bx.new hr
  have x0 := hb0.x0
  have x1 := hb0.x1
  have x2 := hb0.x2
  have x3 := hb0.x3
  have x4 := hb0.x4
  have x5 := hb0.x5
  obtain ⟨c, hc⟩ : ∃ c, chkL v.l = c := ⟨_, rfl⟩
  have HC := Lib.hid (rcheckCC v hm2 hm3 hm4 hm5 hc)
  clear hm2 hm4 hm5
  by_cases h0 : c = 0
  case neg =>
    have HP := Lib.hid (prt_bad hc h0)
    have hne : (c != 0) = true := by simpa using h0
    clear hc h0
    unfold lvA at HC ⊢
    go_enter Tryz.func7, Tryz.ntmps7
    go_wp2_with fail
    refine (HC.out _ hb0.rd).mono ?_
    rintro e w1 ⟨rfl, hq⟩
    have hB := (hb0.now hq).bel
    clear x0 x1 x2 x3 x4 x5 hb0 hq
    go_wp2_with fail
    go_ret2
    exact ⟨by rw [HP.out]; rfl, hB⟩
  subst h0
  have HP := Lib.hid (prt_good hc)
  obtain ⟨hk1, hk2, hk3, hk4, hk5, hk6⟩ := chkL_ok hc
  obtain ⟨hs2, hs1, hs4, hs5⟩ := cnt_b hk1
  have hel : ∀ e ∈ v.l.els, eltB v.l e = true := by unfold elB at hk3; simp only [Bool.and_eq_true, List.all_eq_true] at hk3; exact hk3.1
  have hjt : ∀ e ∈ v.l.jts, jntB v.l e = true := by have := (jnC_ok hk4).1; rwa [List.all_eq_true] at this
  have hsg : ∀ e ∈ v.l.sgs, sgnB v.l e = true := by have := (sgC_ok hk5).1; rwa [List.all_eq_true] at this
  have hbl : ∀ e ∈ v.l.bls, blsB v.l e = true := by have := (blC_ok hk6).1; rwa [List.all_eq_true] at this
  have HEL := Lib.hid hel
  have HJT := Lib.hid hjt
  have HSG := Lib.hid hsg
  have HBL := Lib.hid hbl
  obtain ⟨i0, hi0, hz0, hz1, hz2⟩ := info_parts infoStrT
  obtain ⟨j0, hj0, hy0, hy1, hy2⟩ := info_parts infoStrsT
  have hnl : v.l.name.length ≤ maxLen := hr.nm
  clear hc hk1 hk2 hk3 hk4 hk5 hk6 hel hjt hsg hbl
  unfold lvA at HC ⊢
  go_enter Tryz.func7, Tryz.ntmps7
  go_wp2_with fail
  refine (HC.out _ hb0.rd).mono ?_
  rintro e w1 ⟨rfl, hq⟩
  have hb1 := hb0.now hq
  clear x0 x1 x2 x3 x4 x5 hb0 hq HC
  have x0 := hb1.x0
  have hlt1 := hb1.lt
  have hba := hb1.alloc (.cells #[.string { data := #[108, 97, 121, 111, 117, 116] }, .string (bs v.l.name)] 9)
  have hbb := hba.alloc (.cells #[.slice (some ⟨w1.heap.size, 0, none⟩) 2 2] 22)
  have x1 := hbb.x1
  have hk1 : Blk ((w1.alloc (.cells #[.string { data := #[108, 97, 121, 111, 117, 116] }, .string (bs v.l.name)] 9)).alloc (.cells #[.slice (some ⟨w1.heap.size, 0, none⟩) 2 2] 22)) w1.heap.size 9 (([layoutW, v.l.name] : List (List UInt8)).map fun x => Value.string (bs x)).toArray := (Blk.new w1 _ _ _ rfl).alloc _
  have hk2 : Blk ((w1.alloc (.cells #[.string { data := #[108, 97, 121, 111, 117, 116] }, .string (bs v.l.name)] 9)).alloc (.cells #[.slice (some ⟨w1.heap.size, 0, none⟩) 2 2] 22)) (w1.heap.size + 1) 22 #[.slice (some ⟨w1.heap.size, 0, none⟩) 2 2] := Blk.new _ _ _ _ (by simp)
  have hrow := row_one (base := w.heap.size) hk2 (words := [layoutW, v.l.name]) rfl hk1 (fun x hx => by simp only [List.mem_cons, List.not_mem_nil, or_false] at hx; rcases hx with rfl | rfl; exact Nat.le_trans (show layoutW.length ≤ 6 by decide) (by unfold maxLen; omega); exact hnl) (by decide) (by unfold maxLen; simp) (by omega)
  have hln : Ln w _ v _ _ := ⟨hbb, hrow⟩
  clear hk1 hk2 hrow hba hbb hb1
  go_wp2_with fail
  clear x0 x1
  generalize (w1.alloc (.cells #[.string { data := #[108, 97, 121, 111, 117, 116] }, .string (bs v.l.name)] 9)).alloc (.cells #[.slice (some ⟨w1.heap.size, 0, none⟩) 2 2] 22) = w2 at *
  clear hlt1
  go_loopw [5, 6] (fun s n wr => ∃ k : Nat, k ≤ v.l.secs.length ∧ n = .int .i64 k ∧ Ln w wr v s ([layoutW, v.l.name] :: (v.l.secs.take k).map secW)) (fun _ n _ => v.l.secs.length - (intOf n).toNat)
  case atStart => exact ⟨0, Nat.zero_le _, rfl, hln⟩
  case round =>
    obtain ⟨k, hk, rfl, hl⟩ := hrel
    clear hln
    have hsz := hl.bel.size
    have hlt0 := hl.1.lt
    by_cases hlt : k < v.l.secs.length
    · have hki : (k : Int) < (v.l.secs.length : Int) := by omega
      obtain ⟨b, off, hA, lb, ho, y0⟩ := hl.1.rd.r1.elS hlt
      have x1 := hl.1.x1
      have HT := Lib.hid (map_take secW hlt)
      have hlen : ([layoutW, v.l.name] :: (v.l.secs.take k).map secW).length ≤ 100 := by simp; omega
      rw [hA] at x1
      clear hA
      generalize v.l.secs[k] = q at *
      obtain ⟨lns, hlns⟩ : ∃ x, [layoutW, v.l.name] :: (v.l.secs.take k).map secW = x := ⟨_, rfl⟩
      rw [hlns] at hl hlen
      have HLNS := Lib.hid hlns
      clear hlns
      have hl1 := hl.alloc (.cells #[.string { data := #[115, 101, 99, 116, 105, 111, 110] }, .string (bs q)] 9)
      have hk1 : Blk (wr.alloc (.cells #[.string { data := #[115, 101, 99, 116, 105, 111, 110] }, .string (bs q)] 9)) wr.heap.size 9 ((secW q).map fun x => Value.string (bs x)).toArray := Blk.new wr _ _ _ rfl
      have hrd := line_rd (T' := 22) hk1 (fun x hx => by simp only [secW, List.mem_cons, List.not_mem_nil, or_false] at hx; rcases hx with rfl | rfl; exact Nat.le_trans (show sectionW.length ≤ 7 by decide) (by unfold maxLen; omega); exact ho) (by decide) (by unfold maxLen; simp [secW])
      go_wp2_with (at_builtin; go_loud (refine wpList_append_r (c := cL cS) _ rfl _ _ 47 rfl w.heap.size 22 j0 _ 24 Tryz.underlying47 hj0 hy0 hy1 hy2 rfl (by decide) _ lns _ rfl hl1.2 [_] (secW q) hrd (fun u hu => by (simp at hu; subst hu; rfl)) _ (by simp [Act.eval]) (by omega) (by omega) (by simp; omega) ?_); intro v' w5 hown5 hf5 hs5)
      have hl5 := hl1.push hr hown5 hf5
      go_roundw
      case rel => exact ⟨k + 1, by omega, by go_num, by rw [HT.out, ← List.cons_append, HLNS.out]; exact hl5⟩
      case measure => simp [intOf]; omega
    · have HE : Hid ([layoutW, v.l.name] :: (v.l.secs.take k).map secW = [layoutW, v.l.name] :: v.l.secs.map secW) := Lib.hid (by rw [List.take_of_length_le (by omega)])
      rw [HE.out] at hl
      have x1 := hl.1.x1
      clear hk HE
      go_wp2_with fail
      clear x1
      go_loopw [5, 7] (fun s n wr => ∃ k : Nat, k ≤ v.l.els.length ∧ n = .int .i64 k ∧ Ln w wr v s (([layoutW, v.l.name] :: v.l.secs.map secW) ++ (v.l.els.take k).map (eltW v.l))) (fun _ n _ => v.l.els.length - (intOf n).toNat)
      case atStart => exact ⟨0, Nat.zero_le _, rfl, by simpa using hl⟩
      case round =>
        obtain ⟨k, hk, rfl, hl⟩ := hrel
        by_cases hlt : k < v.l.els.length
        · have hki : (k : Int) < (v.l.els.length : Int) := by omega
          have HT := Lib.hid (map_take (eltW v.l) hlt)
          have hlen : (([layoutW, v.l.name] :: v.l.secs.map secW) ++ (v.l.els.take k).map (eltW v.l)).length ≤ 2000 := by simp; omega
          obtain ⟨lns, hlns⟩ : ∃ x, ([layoutW, v.l.name] :: v.l.secs.map secW) ++ (v.l.els.take k).map (eltW v.l) = x := ⟨_, rfl⟩
          rw [hlns] at hl hlen
          have HLNS := Lib.hid hlns
          clear hlns
          obtain ⟨b, o, hA, lb, ho, y0, y1, y2, y3, y4, y5, y6⟩ := hr.r2.elE hlt
          have hF0 : R2F w v (some ⟨b, o, none⟩) v.l.els[k] b o k := ⟨hA, lb, y0, y1, y2, y3, y4, y5, y6⟩
          have heb := HEL.out v.l.els[k] (List.getElem_mem hlt)
          obtain ⟨ws, hws⟩ : ∃ ws, eltW v.l v.l.els[k] = ws := ⟨_, rfl⟩
          have hrc := relC v heb ho hws
          have HWD := Lib.hid hws
          unfold lvA at hrc
          rw [hA] at hrc
          have x2 := hl.1.x2
          clear hws heb ho y0 y1 y2 y3 y4 y5 y6
          generalize v.l.els[k] = q at *
          have HF := Lib.hid hF0
          clear hF0
          have HCE : Hid (∀ W, R2 w v u5 lns (some ⟨b, o, none⟩) q b o k W → _) := Lib.hid fun W h => hrc W h.all.1.rd
          clear hrc hA
          have hss := R2.mk HF.out hl
          clear hl
          go_wp2_with fail
          clear x2
          go_region_held3 (fun w' => w'.cell? ⟨w.heap.size, 0, none⟩ = some (.string (bs v.l.name)) ∧ w'.cell? ⟨w.heap.size, 1, none⟩ = some (.slice v.A1 v.l.secs.length v.c1) ∧ w'.cell? ⟨w.heap.size, 2, none⟩ = some (.slice (some ⟨b, o, none⟩) v.l.els.length v.c2) ∧ w'.cell? ⟨w.heap.size, 3, none⟩ = some (.slice v.A3 v.l.jts.length v.c3) ∧ w'.cell? ⟨w.heap.size, 4, none⟩ = some (.slice v.A4 v.l.sgs.length v.c4) ∧ w'.cell? ⟨w.heap.size, 5, none⟩ = some (.slice v.A5 v.l.bls.length v.c5) ∧ w'.cell? ⟨b, o + k * 7, none⟩ = some (.string (bs q.name)) ∧ w'.cell? ⟨b, o + k * 7 + 1, none⟩ = some (.int .i64 q.kind) ∧ w'.cell? ⟨b, o + k * 7 + 2, none⟩ = some (.int .i64 q.len) ∧ w'.cell? ⟨b, o + k * 7 + 3, none⟩ = some (.int .i64 q.grd) ∧ w'.cell? ⟨b, o + k * 7 + 4, none⟩ = some (.int .i64 q.spd) ∧ w'.cell? ⟨b, o + k * 7 + 5, none⟩ = some (.int .i64 q.slow) ∧ w'.cell? ⟨b, o + k * 7 + 6, none⟩ = some (.int .i64 q.sec) ∧ Ln w w' v u5 lns) (first | assumption | (refine R2.now HF.out ‹_› ?_; first | assumption | exact (Below.refl _ _).drew | exact (Below.refl _ _).alloc (Nat.le_refl _) _)) (first
            | (go_at_call 17; (refine (HCE.out _ (by assumption)).mono ?_); rintro e wq ⟨A6, c6, rfl, h6, hq⟩; have hlw := Lw.mk (R2.all (by assumption : R2 w v u5 lns (some ⟨b, o, none⟩) q b o k _)) hq h6)
            | (refine step_at_appendT 47 (by rfl) ?_; refine step_push_row rfl _ _ rfl hr j0 hj0 hy0 hy1 hy2 _ lns rfl _ _ _ _ (by exact hlw) _ rfl rfl (by omega) ?_; intro v9 w9 hl9 ho9 hf9; have hs9 := R2.mk HF.out ho9)
            | fail)
          all_goals (
            go_wp2_with fail
            go_roundw
            case rel => exact ⟨k + 1, by omega, by go_num, by rw [HT.out, ← List.append_assoc, HLNS.out, HWD.out]; exact hl9⟩
            case measure => simp [intOf]; omega)
        · have HE : Hid (([layoutW, v.l.name] :: v.l.secs.map secW) ++ (v.l.els.take k).map (eltW v.l) = ([layoutW, v.l.name] :: v.l.secs.map secW) ++ v.l.els.map (eltW v.l)) := Lib.hid (by rw [List.take_of_length_le (by omega)])
          rw [HE.out] at hl
          have x2 := hl.1.x2
          clear hk HE
          go_wp2_with fail
          clear x2
          go_loopw [5, 8] (fun s n wr => ∃ k : Nat, k ≤ v.l.jts.length ∧ n = .int .i64 k ∧ Ln w wr v s ((([layoutW, v.l.name] :: v.l.secs.map secW) ++ v.l.els.map (eltW v.l)) ++ (v.l.jts.take k).map (jntW v.l))) (fun _ n _ => v.l.jts.length - (intOf n).toNat)
          case atStart => exact ⟨0, Nat.zero_le _, rfl, by simpa using hl⟩
          case round =>
            obtain ⟨k, hk, rfl, hl⟩ := hrel
            by_cases hlt : k < v.l.jts.length
            · have hki : (k : Int) < (v.l.jts.length : Int) := by omega
              have HT := Lib.hid (map_take (jntW v.l) hlt)
              have hlen : ((([layoutW, v.l.name] :: v.l.secs.map secW) ++ v.l.els.map (eltW v.l)) ++ (v.l.jts.take k).map (jntW v.l)).length ≤ 2000 := by simp; omega
              obtain ⟨lns, hlns⟩ : ∃ x, (([layoutW, v.l.name] :: v.l.secs.map secW) ++ v.l.els.map (eltW v.l)) ++ (v.l.jts.take k).map (jntW v.l) = x := ⟨_, rfl⟩
              rw [hlns] at hl hlen
              have HLNS := Lib.hid hlns
              clear hlns
              obtain ⟨b, off, hA, lb, ho, y0, y1, y2, y3⟩ := hl.1.rd.r3.elJ hlt
              obtain ⟨hja, hjb, _⟩ := jntB_iff (HJT.out v.l.jts[k] (List.getElem_mem hlt))
              obtain ⟨⟨h0ka, h1ka⟩, h2ka, h3ka⟩ := exB_iff hja
              obtain ⟨⟨h0kb, h1kb⟩, h2kb, h3kb⟩ := exB_iff hjb
              obtain ⟨ka, hka⟩ := Int.eq_ofNat_of_zero_le h0ka
              have lka : ka < v.l.els.length := by omega
              obtain ⟨_, _, -, -, honka, -⟩ := hr.r2.elE lka
              obtain ⟨nka, hnka⟩ : ∃ s, v.l.els[ka].name = s := ⟨_, rfl⟩
              have hleka := honka.1
              rw [hnka] at hleka
              obtain ⟨kb, hkb⟩ := Int.eq_ofNat_of_zero_le h0kb
              have lkb : kb < v.l.els.length := by omega
              obtain ⟨_, _, -, -, honkb, -⟩ := hr.r2.elE lkb
              obtain ⟨nkb, hnkb⟩ : ∃ s, v.l.els[kb].name = s := ⟨_, rfl⟩
              have hlekb := honkb.1
              rw [hnkb] at hlekb
              have HWD : Hid (jntW v.l v.l.jts[k] = [jointW, nka, Lib.itoa v.l.jts[k].a.sd, nkb, Lib.itoa v.l.jts[k].b.sd]) := Lib.hid (by unfold jntW; rw [nmAt_in hka lka, nmAt_in hkb lkb, hnka, hnkb])
              have oa := ho.1.2
              have ob := ho.2.2
              have ila := itoaP_len v.l.jts[k].a.sd oa
              have ilb := itoaP_len v.l.jts[k].b.sd ob
              have HWL : Hid (∀ x ∈ [jointW, nka, Lib.itoa v.l.jts[k].a.sd, nkb, Lib.itoa v.l.jts[k].b.sd], x.length ≤ maxLen) := Lib.hid (by
                intro x hx
                simp only [List.mem_cons, List.not_mem_nil, or_false] at hx
                rcases hx with rfl | rfl | rfl | rfl | rfl
                · exact Nat.le_trans (show jointW.length ≤ 5 by decide) (by unfold maxLen; omega)
                · exact hleka
                · unfold maxLen; omega
                · exact hlekb
                · unfold maxLen; omega)
              have hNa : NmOf v ka nka := ⟨lka, hnka⟩
              have hNb : NmOf v kb nkb := ⟨lkb, hnkb⟩
              have hra := fun (k : Nat) (s : List UInt8) (h : NmOf v k s) => rnmN v h
              unfold lvA at hra
              have HFM : Hid (∀ (W : World) (n : Int), I64n n → Calls Tryz.prog 19 #[.int .i64 n] W fun e w' => e = .returned (.string (bs (Lib.itoa n))) ∧ W = w') := Lib.hid fun W n hn => rformat_any n W hn.1 hn.2
              rw [hka] at y0
              rw [hkb] at y2
              have x3 := hl.1.x3
              rw [hA] at x3
              clear hA hnka hnkb hka hkb h0ka h1ka h2ka h3ka h0kb h1kb h2kb h3kb honka honkb ho hja hjb
              generalize v.l.jts[k] = q at *
              have hal := (Below.refl wr.heap.size wr).alloc (Nat.le_refl _) (.cells #[.int .i64 (ka : Int), .int .i64 q.a.sd] 37)
              have z2 := (hal.cell (p := ⟨b, off + k * 4 + 2, none⟩) lb).trans y2
              have z3 := (hal.cell (p := ⟨b, off + k * 4 + 3, none⟩) lb).trans y3
              have hla := hl.alloc (.cells #[.int .i64 (ka : Int), .int .i64 q.a.sd] 37)
              have x3a := (hal.cell (p := ⟨w.heap.size, 3, none⟩) hl.1.lt).trans x3
              have hss := R3.mk (q := q) (ka := ka) (kb := kb) (hla.alloc (.cells #[.int .i64 (kb : Int), .int .i64 q.b.sd] 37)) (ga := wr.heap.size) (gb := wr.heap.size + 1) ((Blk.new _ _ _ _ rfl).alloc _) (Blk.new _ _ _ _ (by simp))
              go_wp2_with fail
              generalize (wr.alloc (.cells #[.int .i64 (ka : Int), .int .i64 q.a.sd] 37)).alloc (.cells #[.int .i64 (kb : Int), .int .i64 q.b.sd] 37) = W0 at *
              obtain ⟨ga, hga⟩ : ∃ g, g = wr.heap.size := ⟨_, rfl⟩
              obtain ⟨gb, hgb⟩ : ∃ g, g = wr.heap.size + 1 := ⟨_, rfl⟩
              rw [← hgb, ← hga] at hss
              rw [← hgb, ← hga]
              have HNA : Hid (∀ W, R3 w v u5 lns ga gb q ka kb W → ∀ (k : Nat) (s : List UInt8), NmOf v k s → _) := Lib.hid fun W h k s hk => hra k s hk W h.all.1.1.rd
              clear hra hga hgb hal hla hl lb x3 x3a y0 y1 y2 y3 z2 z3
              go_region_held3 (fun w' => w'.cell? ⟨w.heap.size, 0, none⟩ = some (.string (bs v.l.name)) ∧ w'.cell? ⟨w.heap.size, 1, none⟩ = some (.slice v.A1 v.l.secs.length v.c1) ∧ w'.cell? ⟨w.heap.size, 2, none⟩ = some (.slice v.A2 v.l.els.length v.c2) ∧ w'.cell? ⟨w.heap.size, 3, none⟩ = some (.slice v.A3 v.l.jts.length v.c3) ∧ w'.cell? ⟨w.heap.size, 4, none⟩ = some (.slice v.A4 v.l.sgs.length v.c4) ∧ w'.cell? ⟨w.heap.size, 5, none⟩ = some (.slice v.A5 v.l.bls.length v.c5) ∧ w'.cell? ⟨ga, 0, none⟩ = some (.int .i64 (ka : Int)) ∧ w'.cell? ⟨ga, 1, none⟩ = some (.int .i64 q.a.sd) ∧ w'.cell? ⟨gb, 0, none⟩ = some (.int .i64 (kb : Int)) ∧ w'.cell? ⟨gb, 1, none⟩ = some (.int .i64 q.b.sd) ∧ (Ln w w' v u5 lns ∧ Blk w' ga 37 #[.int .i64 (ka : Int), .int .i64 q.a.sd] ∧ Blk w' gb 37 #[.int .i64 (kb : Int), .int .i64 q.b.sd])) (first | assumption | (refine R3.now ‹_› ?_; first | assumption | exact (Below.refl _ _).drew | exact (Below.refl _ _).alloc (Nat.le_refl _) _)) (first
                | (go_at_call 19; (refine (HFM.out _ _ (by assumption)).mono ?_); rintro e wq ⟨rfl, rfl⟩)
                | (go_at_call 18; (refine (HNA.out _ (by assumption) _ _ (by assumption)).mono ?_); rintro e wq ⟨rfl, hq⟩)
                | (refine step_at_appendT 47 (by rfl) ?_; refine step_push_line rfl _ _ rfl hr j0 hj0 hy0 hy1 hy2 _ lns rfl _ _ _ (R3.all (by assumption : R3 w v u5 lns ga gb q ka kb _)).1 [jointW, nka, Lib.itoa q.a.sd, nkb, Lib.itoa q.b.sd] rfl rfl rfl HWL.out (by simp) _ rfl (by simp) (by omega) ?_; intro v9 w9 hl9 ho9 hf9; have hs9 := R3.push (by assumption : R3 w v u5 lns ga gb q ka kb _) ho9 hf9)
                | fail)
              all_goals (
                go_wp2_with fail
                go_roundw
                case rel => exact ⟨k + 1, by omega, by go_num, by rw [HT.out, ← List.append_assoc, HLNS.out, HWD.out]; exact hl9⟩
                case measure => simp [intOf]; omega)
            · have HE : Hid ((([layoutW, v.l.name] :: v.l.secs.map secW) ++ v.l.els.map (eltW v.l)) ++ (v.l.jts.take k).map (jntW v.l) = (([layoutW, v.l.name] :: v.l.secs.map secW) ++ v.l.els.map (eltW v.l)) ++ v.l.jts.map (jntW v.l)) := Lib.hid (by rw [List.take_of_length_le (by omega)])
              rw [HE.out] at hl
              have x3 := hl.1.x3
              clear hk HE
              go_wp2_with fail
              clear x3
              go_loopw [5, 11] (fun s n wr => ∃ k : Nat, k ≤ v.l.sgs.length ∧ n = .int .i64 k ∧ Ln w wr v s (((([layoutW, v.l.name] :: v.l.secs.map secW) ++ v.l.els.map (eltW v.l)) ++ v.l.jts.map (jntW v.l)) ++ (v.l.sgs.take k).map (sgnW v.l))) (fun _ n _ => v.l.sgs.length - (intOf n).toNat)
              case atStart => exact ⟨0, Nat.zero_le _, rfl, by simpa using hl⟩
              case round =>
                obtain ⟨k, hk, rfl, hl⟩ := hrel
                by_cases hlt : k < v.l.sgs.length
                · have hki : (k : Int) < (v.l.sgs.length : Int) := by omega
                  have HT := Lib.hid (map_take (sgnW v.l) hlt)
                  have hlen : (((([layoutW, v.l.name] :: v.l.secs.map secW) ++ v.l.els.map (eltW v.l)) ++ v.l.jts.map (jntW v.l)) ++ (v.l.sgs.take k).map (sgnW v.l)).length ≤ 2000 := by simp; omega
                  obtain ⟨lns, hlns⟩ : ∃ x, ((([layoutW, v.l.name] :: v.l.secs.map secW) ++ v.l.els.map (eltW v.l)) ++ v.l.jts.map (jntW v.l)) ++ (v.l.sgs.take k).map (sgnW v.l) = x := ⟨_, rfl⟩
                  rw [hlns] at hl hlen
                  have HLNS := Lib.hid hlns
                  clear hlns
                  obtain ⟨b, off, hA, lb, ho, y0, y1, y2, y3⟩ := hl.1.rd.r4.elG hlt
                  obtain ⟨hja, hjb, hjc⟩ := sgnB_iff (HSG.out v.l.sgs[k] (List.getElem_mem hlt))
                  obtain ⟨⟨h0ka, h1ka⟩, h2ka, h3ka⟩ := exB_iff hja
                  obtain ⟨ka, hka⟩ := Int.eq_ofNat_of_zero_le h0ka
                  have lka : ka < v.l.els.length := by omega
                  obtain ⟨_, _, -, -, honka, -⟩ := hr.r2.elE lka
                  obtain ⟨nka, hnka⟩ : ∃ s, v.l.els[ka].name = s := ⟨_, rfl⟩
                  have hleka := honka.1
                  rw [hnka] at hleka
                  obtain ⟨ws, hws⟩ : ∃ ws, [signalW, v.l.sgs[k].name, nka] ++ [v.l.sgs[k].pos.sd, v.l.sgs[k].ovl].map Lib.itoa = ws := ⟨_, rfl⟩
                  have HWD : Hid (sgnW v.l v.l.sgs[k] = ws) := Lib.hid (by rw [← hws]; unfold sgnW; rw [nmAt_in hka lka, hnka]; rfl)
                  obtain ⟨on, ⟨_, oa⟩, ob⟩ := ho
                  have HLN : Hid (∀ (W : World) (g1 g2 : Nat), Blk W g1 9 #[.string { data := #[115, 105, 103, 110, 97, 108] }, .string (bs v.l.sgs[k].name), .string (bs nka)] → Blk W g2 3 #[.int .i64 v.l.sgs[k].pos.sd, .int .i64 v.l.sgs[k].ovl] → Calls Tryz.prog 20 #[.slice (some ⟨g1, 0, none⟩) 3 3, .slice (some ⟨g2, 0, none⟩) 2 2] W (RowP W ws)) := Lib.hid fun W g1 g2 h1 h2 => by
                    rw [← hws]
                    exact rline_any [signalW, v.l.sgs[k].name, nka] (some ⟨g1, 0, none⟩) 3 [v.l.sgs[k].pos.sd, v.l.sgs[k].ovl] (some ⟨g2, 0, none⟩) 2 W (rds_strs h1 (fun x hx => by simp only [List.mem_cons, List.not_mem_nil, or_false] at hx; rcases hx with rfl | rfl | rfl; exact Nat.le_trans (show signalW.length ≤ 6 by decide) (by unfold maxLen; omega); exact on; exact hleka)) (rds_ints h2 (fun n hn => by simp only [List.mem_cons, List.not_mem_nil, or_false] at hn; rcases hn with rfl | rfl <;> assumption)) (by simp) (by simp)
                  have hra := rnmC v lka hnka
                  unfold lvA at hra
                  rw [hka] at y1
                  have x4 := hl.1.x4
                  rw [hA] at x4
                  clear hA hnka hka h0ka h1ka h2ka h3ka honka hja hjb hjc hws
                  generalize v.l.sgs[k] = q at *
                  have hss := R4.mk (q := q) (ka := ka) (hl.alloc (.cells #[.string (bs q.name), .int .i64 (ka : Int), .int .i64 q.pos.sd, .int .i64 q.ovl] 41)) (ga := wr.heap.size) (Blk.new _ _ _ _ rfl)
                  go_wp2_with fail
                  generalize wr.alloc (.cells #[.string (bs q.name), .int .i64 (ka : Int), .int .i64 q.pos.sd, .int .i64 q.ovl] 41) = W0 at *
                  obtain ⟨ga, hga⟩ : ∃ g, g = wr.heap.size := ⟨_, rfl⟩
                  rw [← hga] at hss ⊢
                  have HNA : Hid (∀ W, R4 w v u5 lns ga q ka W → _) := Lib.hid fun W h => hra W h.all.1.1.rd
                  clear hra hga hl lb x4 y0 y1 y2 y3
                  go_region_held3 (fun w' => w'.cell? ⟨w.heap.size, 0, none⟩ = some (.string (bs v.l.name)) ∧ w'.cell? ⟨w.heap.size, 1, none⟩ = some (.slice v.A1 v.l.secs.length v.c1) ∧ w'.cell? ⟨w.heap.size, 2, none⟩ = some (.slice v.A2 v.l.els.length v.c2) ∧ w'.cell? ⟨w.heap.size, 3, none⟩ = some (.slice v.A3 v.l.jts.length v.c3) ∧ w'.cell? ⟨w.heap.size, 4, none⟩ = some (.slice v.A4 v.l.sgs.length v.c4) ∧ w'.cell? ⟨w.heap.size, 5, none⟩ = some (.slice v.A5 v.l.bls.length v.c5) ∧ w'.cell? ⟨ga, 0, none⟩ = some (.string (bs q.name)) ∧ w'.cell? ⟨ga, 1, none⟩ = some (.int .i64 (ka : Int)) ∧ w'.cell? ⟨ga, 2, none⟩ = some (.int .i64 q.pos.sd) ∧ w'.cell? ⟨ga, 3, none⟩ = some (.int .i64 q.ovl) ∧ (Ln w w' v u5 lns ∧ Blk w' ga 41 #[.string (bs q.name), .int .i64 (ka : Int), .int .i64 q.pos.sd, .int .i64 q.ovl])) (first | assumption | (refine R4.now ‹_› ?_; first | assumption | exact (Below.refl _ _).drew | exact (Below.refl _ _).alloc (Nat.le_refl _) _)) (first
                    | (go_at_call 18; (refine (HNA.out _ (by assumption)).mono ?_); rintro e wq ⟨rfl, hq⟩)
                    | (go_at_call 20; (refine (HLN.out _ _ _ (by (repeat' (first | (with_reducible exact Blk.new _ _ _ _ (by first | rfl | omega | (simp; done))) | (with_reducible refine Blk.alloc ?_ _) | (with_reducible refine Blk.drew ?_) | (refine Blk.now ?_ (by assumption))))) (by (repeat' (first | (with_reducible exact Blk.new _ _ _ _ (by first | rfl | omega | (simp; done))) | (with_reducible refine Blk.alloc ?_ _) | (with_reducible refine Blk.drew ?_) | (refine Blk.now ?_ (by assumption)))))).mono ?_); rintro e wq ⟨A6, c6, rfl, h6, hq⟩; have hlw := Lw.mk (R4.all (by assumption : R4 w v u5 lns ga q ka _)).1 hq h6)
                    | (refine step_at_appendT 47 (by rfl) ?_; refine step_push_row rfl _ _ rfl hr j0 hj0 hy0 hy1 hy2 _ lns rfl _ _ _ _ (by exact hlw) _ rfl rfl (by omega) ?_; intro v9 w9 hl9 ho9 hf9; have hs9 := R4.push (by assumption : R4 w v u5 lns ga q ka _) ho9 hf9)
                    | fail)
                  all_goals (
                    go_wp2_with fail
                    go_roundw
                    case rel => exact ⟨k + 1, by omega, by go_num, by rw [HT.out, ← List.append_assoc, HLNS.out, HWD.out]; exact hl9⟩
                    case measure => simp [intOf]; omega)
                · have HE : Hid (((([layoutW, v.l.name] :: v.l.secs.map secW) ++ v.l.els.map (eltW v.l)) ++ v.l.jts.map (jntW v.l)) ++ (v.l.sgs.take k).map (sgnW v.l) = ((([layoutW, v.l.name] :: v.l.secs.map secW) ++ v.l.els.map (eltW v.l)) ++ v.l.jts.map (jntW v.l)) ++ v.l.sgs.map (sgnW v.l)) := Lib.hid (by rw [List.take_of_length_le (by omega)])
                  rw [HE.out] at hl
                  have x4 := hl.1.x4
                  clear hk HE
                  go_wp2_with fail
                  clear x4
                  go_loopw [5, 13] (fun s n wr => ∃ k : Nat, k ≤ v.l.bls.length ∧ n = .int .i64 k ∧ Ln w wr v s ((((([layoutW, v.l.name] :: v.l.secs.map secW) ++ v.l.els.map (eltW v.l)) ++ v.l.jts.map (jntW v.l)) ++ v.l.sgs.map (sgnW v.l)) ++ (v.l.bls.take k).map (blsW v.l))) (fun _ n _ => v.l.bls.length - (intOf n).toNat)
                  case atStart => exact ⟨0, Nat.zero_le _, rfl, by simpa using hl⟩
                  case round =>
                    obtain ⟨k, hk, rfl, hl⟩ := hrel
                    by_cases hlt : k < v.l.bls.length
                    · have hki : (k : Int) < (v.l.bls.length : Int) := by omega
                      have HT := Lib.hid (map_take (blsW v.l) hlt)
                      have hlen : ((((([layoutW, v.l.name] :: v.l.secs.map secW) ++ v.l.els.map (eltW v.l)) ++ v.l.jts.map (jntW v.l)) ++ v.l.sgs.map (sgnW v.l)) ++ (v.l.bls.take k).map (blsW v.l)).length ≤ 2000 := by simp; omega
                      obtain ⟨lns, hlns⟩ : ∃ x, (((([layoutW, v.l.name] :: v.l.secs.map secW) ++ v.l.els.map (eltW v.l)) ++ v.l.jts.map (jntW v.l)) ++ v.l.sgs.map (sgnW v.l)) ++ (v.l.bls.take k).map (blsW v.l) = x := ⟨_, rfl⟩
                      rw [hlns] at hl hlen
                      have HLNS := Lib.hid hlns
                      clear hlns
                      obtain ⟨b, off, hA, lb, ho, y0, y1, y2⟩ := hl.1.rd.r5.elB hlt
                      obtain ⟨_, ⟨h0ka, h1ka⟩, _⟩ := blsB_iff (HBL.out v.l.bls[k] (List.getElem_mem hlt))
                      obtain ⟨ka, hka⟩ := Int.eq_ofNat_of_zero_le h0ka
                      have lka : ka < v.l.els.length := by omega
                      obtain ⟨_, _, -, -, honka, -⟩ := hr.r2.elE lka
                      obtain ⟨nka, hnka⟩ : ∃ s, v.l.els[ka].name = s := ⟨_, rfl⟩
                      have hleka := honka.1
                      rw [hnka] at hleka
                      have HWD : Hid (blsW v.l v.l.bls[k] = [baliseW, Lib.itoa v.l.bls[k].id, nka, Lib.itoa v.l.bls[k].off]) := Lib.hid (by unfold blsW; rw [nmAt_in hka lka, hnka])
                      obtain ⟨oa, _, ob⟩ := ho
                      have ila := itoaP_len v.l.bls[k].id oa
                      have ilb := itoaP_len v.l.bls[k].off ob
                      have HWL : Hid (∀ x ∈ [baliseW, Lib.itoa v.l.bls[k].id, nka, Lib.itoa v.l.bls[k].off], x.length ≤ maxLen) := Lib.hid (by
                        intro x hx
                        simp only [List.mem_cons, List.not_mem_nil, or_false] at hx
                        rcases hx with rfl | rfl | rfl | rfl
                        · exact Nat.le_trans (show baliseW.length ≤ 6 by decide) (by unfold maxLen; omega)
                        · unfold maxLen; omega
                        · exact hleka
                        · unfold maxLen; omega)
                      have hra := rnmC v lka hnka
                      unfold lvA at hra
                      have HFM : Hid (∀ (W : World) (n : Int), I64n n → Calls Tryz.prog 19 #[.int .i64 n] W fun e w' => e = .returned (.string (bs (Lib.itoa n))) ∧ W = w') := Lib.hid fun W n hn => rformat_any n W hn.1 hn.2
                      rw [hka] at y1
                      have x5 := hl.1.x5
                      rw [hA] at x5
                      clear hA hnka hka h0ka h1ka honka
                      generalize v.l.bls[k] = q at *
                      have hss := R5.mk (q := q) (ka := ka) (hl.alloc (.cells #[.int .i64 q.id, .int .i64 (ka : Int), .int .i64 q.off] 51)) (ga := wr.heap.size) (Blk.new _ _ _ _ rfl)
                      go_wp2_with fail
                      generalize wr.alloc (.cells #[.int .i64 q.id, .int .i64 (ka : Int), .int .i64 q.off] 51) = W0 at *
                      obtain ⟨ga, hga⟩ : ∃ g, g = wr.heap.size := ⟨_, rfl⟩
                      rw [← hga] at hss ⊢
                      have HNA : Hid (∀ W, R5 w v u5 lns ga q ka W → _) := Lib.hid fun W h => hra W h.all.1.1.rd
                      clear hra hga hl lb x5 y0 y1 y2
                      go_region_held3 (fun w' => w'.cell? ⟨w.heap.size, 0, none⟩ = some (.string (bs v.l.name)) ∧ w'.cell? ⟨w.heap.size, 1, none⟩ = some (.slice v.A1 v.l.secs.length v.c1) ∧ w'.cell? ⟨w.heap.size, 2, none⟩ = some (.slice v.A2 v.l.els.length v.c2) ∧ w'.cell? ⟨w.heap.size, 3, none⟩ = some (.slice v.A3 v.l.jts.length v.c3) ∧ w'.cell? ⟨w.heap.size, 4, none⟩ = some (.slice v.A4 v.l.sgs.length v.c4) ∧ w'.cell? ⟨w.heap.size, 5, none⟩ = some (.slice v.A5 v.l.bls.length v.c5) ∧ w'.cell? ⟨ga, 0, none⟩ = some (.int .i64 q.id) ∧ w'.cell? ⟨ga, 1, none⟩ = some (.int .i64 (ka : Int)) ∧ w'.cell? ⟨ga, 2, none⟩ = some (.int .i64 q.off) ∧ (Ln w w' v u5 lns ∧ Blk w' ga 51 #[.int .i64 q.id, .int .i64 (ka : Int), .int .i64 q.off])) (first | assumption | (refine R5.now ‹_› ?_; first | assumption | exact (Below.refl _ _).drew | exact (Below.refl _ _).alloc (Nat.le_refl _) _)) (first
                        | (go_at_call 19; (refine (HFM.out _ _ (by assumption)).mono ?_); rintro e wq ⟨rfl, rfl⟩)
                        | (go_at_call 18; (refine (HNA.out _ (by assumption)).mono ?_); rintro e wq ⟨rfl, hq⟩)
                        | (refine step_at_appendT 47 (by rfl) ?_; refine step_push_line rfl _ _ rfl hr j0 hj0 hy0 hy1 hy2 _ lns rfl _ _ _ (R5.all (by assumption : R5 w v u5 lns ga q ka _)).1 [baliseW, Lib.itoa q.id, nka, Lib.itoa q.off] rfl rfl rfl HWL.out (by simp) _ rfl (by simp) (by omega) ?_; intro v9 w9 hl9 ho9 hf9; have hs9 := R5.push (by assumption : R5 w v u5 lns ga q ka _) ho9 hf9)
                        | fail)
                      all_goals (
                        go_wp2_with fail
                        go_roundw
                        case rel => exact ⟨k + 1, by omega, by go_num, by rw [HT.out, ← List.append_assoc, HLNS.out, HWD.out]; exact hl9⟩
                        case measure => simp [intOf]; omega)
                    · have HE : Hid ((((([layoutW, v.l.name] :: v.l.secs.map secW) ++ v.l.els.map (eltW v.l)) ++ v.l.jts.map (jntW v.l)) ++ v.l.sgs.map (sgnW v.l)) ++ (v.l.bls.take k).map (blsW v.l) = (((([layoutW, v.l.name] :: v.l.secs.map secW) ++ v.l.els.map (eltW v.l)) ++ v.l.jts.map (jntW v.l)) ++ v.l.sgs.map (sgnW v.l)) ++ v.l.bls.map (blsW v.l)) := Lib.hid (by rw [List.take_of_length_le (by omega)])
                      rw [HE.out] at hl
                      have x5 := hl.1.x5
                      clear hk HE
                      have HLL : Hid ((((([layoutW, v.l.name] :: v.l.secs.map secW) ++ v.l.els.map (eltW v.l)) ++ v.l.jts.map (jntW v.l)) ++ v.l.sgs.map (sgnW v.l)) ++ v.l.bls.map (blsW v.l) = linesL v.l) := Lib.hid (by simp [linesL])
                      rw [HLL.out] at hl
                      have hB := hl.bel
                      have hlen : (linesL v.l).length ≤ 2000 := by rw [lines_len]; omega
                      have hcn := cnt_lines v.l
                      obtain ⟨tx, hj⟩ : ∃ tx, joinF (linesL v.l) = tx := ⟨_, rfl⟩
                      rw [hj] at HP
                      obtain ⟨A9, c9, rfl, ⟨hm9, hc9⟩, hrd9⟩ := hl.2.reads2
                      have HJN := Lib.hid (rjoinLC (t := tx.1) (x := tx.2) hj A9 c9 wr hrd9 (by omega) (by omega))
                      clear hl hrd9 hj hcn
                      generalize (linesL v.l).length = nl at *
                      go_wp2_with fail
                      refine HJN.out.mono ?_
                      rintro e w9 ⟨rfl, rfl⟩
                      go_wp2_with fail
                      go_ret2
                      exact ⟨by rw [HP.out]; rfl, hB⟩
end Go.Proofs.YtopoknocfoiiaaaGreatDoor
namespace Go.Proofs.YtopoknocfoiiaaaGreatDoor
set_option linter.unusedVariables false
set_option linter.unusedSimpArgs false
open Go.RowKit
attribute [local go_sem] bs_size bs_get bs_append bs_extract bs_toList
attribute [-go_sem] run_equalIn_agg

def True1 (w : World) (e : Ending) (w' : World) : Prop := e = .returned (.bool true) ∧ Below w.heap.size w w'
theorem fewC {v : LV} {b : Bool} (h : fewB v.l = b) (w : World) (hr : LvR w v) : Calls Tryz.prog 4 #[lvA v] w fun e w' => e = .returned (.bool b) ∧ Below w.heap.size w w' := h ▸ few_any v w hr
theorem printC {v : LV} {t : List UInt8} {x : Int} (h : prtL v.l = (t, x)) (w : World) (E : EnvS w) (hr : LvR w v) (hj : v.l.jts.length ≤ 1000) : Calls Tryz.prog 6 #[lvA v] w fun e w' => e = .returned (.tuple #[.string (bs t), .int .i64 x]) ∧ Below w.heap.size w w' := by
  have h2 := print_any v w E hr hj
  rw [h] at h2
  exact h2
theorem rprintC {v : LV} {t : List UInt8} {x : Int} (h : prtL v.l = (t, x)) (w : World) (hr : LvR w v) (h1 : v.l.els.length ≤ 1000) (h2 : v.l.jts.length ≤ 1000) (h3 : v.l.sgs.length ≤ 1000) (h4 : v.l.bls.length ≤ 1000) : Calls Tryz.prog 7 #[lvA v] w fun e w' => e = .returned (.tuple #[.string (bs t), .int .i64 x]) ∧ Below w.heap.size w w' := by
  have h2 := rprint_any v w hr h1 h2 h3 h4
  rw [h] at h2
  exact h2
set_option maxRecDepth 100000 in
set_option maxHeartbeats 16000000 in
theorem planPrints_walk (v : LV) (w : World) (E : EnvS w) (hv : LvR w v) : Calls Tryz.prog 3 #[lvA v] w (True1 w) := by
  have hb0 := Bx.new hv
  have x0 := hb0.x0
  have x1 := hb0.x1
  have x2 := hb0.x2
  have x3 := hb0.x3
  have x4 := hb0.x4
  have x5 := hb0.x5
  cases hf : fewB v.l with
  | false =>
    have HF := Lib.hid fun W h => fewC hf W h
    clear hf hv
    unfold lvA at *
    go_enter Tryz.func3, Tryz.ntmps3
    go_wp2_with fail
    refine (HF.out _ hb0.rd).mono ?_
    rintro e w1 ⟨rfl, hq1⟩
    have hb1 := hb0.now hq1
    clear x0 x1 x2 x3 x4 x5
    go_wp2_with fail
    refine (alive_any _ (E.now hb1.bel)).mono ?_
    rintro e w2 ⟨rfl, hq2⟩
    have hz := hb1.now hq2
    go_wp2_with fail
    go_ret
    exact ⟨rfl, hz.bel⟩
  | true =>
    have HF := Lib.hid fun W h => fewC hf W h
    obtain ⟨f1, f2, f3, f4, f5⟩ := fewB_iff.1 hf
    clear hf
    obtain ⟨⟨t, x⟩, ht⟩ : ∃ r, prtL v.l = r := ⟨_, rfl⟩
    have HP := Lib.hid fun W E h => printC ht W E h (by omega)
    have HR := Lib.hid fun W h => rprintC ht W h (by omega) (by omega) (by omega) (by omega)
    clear ht hv f1 f2 f3 f4 f5
    unfold lvA at *
    go_enter Tryz.func3, Tryz.ntmps3
    go_wp2_with fail
    refine (HF.out _ hb0.rd).mono ?_
    rintro e w1 ⟨rfl, hq1⟩
    have hb1 := hb0.now hq1
    clear x0 x1 x2 x3 x4 x5
    have x0 := hb1.x0
    have x1 := hb1.x1
    have x2 := hb1.x2
    have x3 := hb1.x3
    have x4 := hb1.x4
    have x5 := hb1.x5
    go_wp2_with fail
    refine (HP.out _ (E.now hb1.bel) hb1.rd).mono ?_
    rintro e w2 ⟨rfl, hq2⟩
    have hb2 := hb1.now hq2
    clear x0 x1 x2 x3 x4 x5
    have x0 := hb2.x0
    have x1 := hb2.x1
    have x2 := hb2.x2
    have x3 := hb2.x3
    have x4 := hb2.x4
    have x5 := hb2.x5
    go_wp2_with fail
    refine (HR.out _ hb2.rd).mono ?_
    rintro e w3 ⟨rfl, hq3⟩
    have hb3 := hb2.now hq3
    clear x0 x1 x2 x3 x4 x5
    go_wp2_with fail
    refine (alive_any _ (E.now hb3.bel)).mono ?_
    rintro e w4 ⟨rfl, hq4⟩
    have hz := hb3.now hq4
    go_wp2_with fail
    go_ret
    exact ⟨rfl, hz.bel⟩
end Go.Proofs.YtopoknocfoiiaaaGreatDoor
