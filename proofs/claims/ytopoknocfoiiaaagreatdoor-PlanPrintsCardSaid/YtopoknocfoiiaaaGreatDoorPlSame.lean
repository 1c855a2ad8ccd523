/- The walk of the reference's Same on layouts. -/
import Derived.Test.YtopoknocfoiiaaaGreatDoorPlCodE
import Derived.Deep.QuietTactic
import Derived.BigQuiet
namespace Go.Proofs.YtopoknocfoiiaaaGreatDoor
set_option linter.unusedVariables false
set_option linter.unusedSimpArgs false
open Go.RowKit
attribute [local go_sem] bs_size bs_get bs_append bs_extract bs_toList
attribute [-go_sem] run_equalIn_agg
/-- Two layouts boxed at the beginning of a call. -/
structure B2 (w0 : World) (a b : LV) (w : World) : Prop where
  bel : Below w0.heap.size w0 w
  ba : Blk w w0.heap.size 28 #[.string (bs a.l.name), .slice a.A1 a.l.secs.length a.c1, .slice a.A2 a.l.els.length a.c2, .slice a.A3 a.l.jts.length a.c3, .slice a.A4 a.l.sgs.length a.c4, .slice a.A5 a.l.bls.length a.c5]
  bb : Blk w (w0.heap.size + 1) 28 #[.string (bs b.l.name), .slice b.A1 b.l.secs.length b.c1, .slice b.A2 b.l.els.length b.c2, .slice b.A3 b.l.jts.length b.c3, .slice b.A4 b.l.sgs.length b.c4, .slice b.A5 b.l.bls.length b.c5]
  ra : LvR w a
  rb : LvR w b
theorem B2.now {w0 w w' : World} {a b : LV} (h : B2 w0 a b w) (hb : Below w.heap.size w w') : B2 w0 a b w' := ⟨bel_then h.bel h.bel.size hb, h.ba.now hb, h.bb.now hb, h.ra.now hb, h.rb.now hb⟩
theorem B2.drewN {w0 w : World} {a b : LV} (h : B2 w0 a b w) (n : Nat) : B2 w0 a b (w.drewN n) := h.now (Below.drewN (Below.refl _ _) n)
theorem B2.new {w : World} {a b : LV} (ha : LvR w a) (hb : LvR w b) : B2 w a b ((w.alloc (.cells #[.string (bs a.l.name), .slice a.A1 a.l.secs.length a.c1, .slice a.A2 a.l.els.length a.c2, .slice a.A3 a.l.jts.length a.c3, .slice a.A4 a.l.sgs.length a.c4, .slice a.A5 a.l.bls.length a.c5] 28)).alloc (.cells #[.string (bs b.l.name), .slice b.A1 b.l.secs.length b.c1, .slice b.A2 b.l.els.length b.c2, .slice b.A3 b.l.jts.length b.c3, .slice b.A4 b.l.sgs.length b.c4, .slice b.A5 b.l.bls.length b.c5] 28)) := by
  have h1 := (Below.refl w.heap.size w).alloc (Nat.le_refl _) (.cells #[.string (bs a.l.name), .slice a.A1 a.l.secs.length a.c1, .slice a.A2 a.l.els.length a.c2, .slice a.A3 a.l.jts.length a.c3, .slice a.A4 a.l.sgs.length a.c4, .slice a.A5 a.l.bls.length a.c5] 28)
  have h2 := h1.alloc h1.size (.cells #[.string (bs b.l.name), .slice b.A1 b.l.secs.length b.c1, .slice b.A2 b.l.els.length b.c2, .slice b.A3 b.l.jts.length b.c3, .slice b.A4 b.l.sgs.length b.c4, .slice b.A5 b.l.bls.length b.c5] 28)
  exact ⟨h2, (Blk.new w _ _ _ rfl).alloc _, Blk.new _ _ _ _ (by simp), ha.now h2, hb.now h2⟩
theorem lay_ne1 {a b : Lay} (h : a.name ≠ b.name) : decide (a = b) = false := decide_eq_false fun e => h (by rw [e])
theorem lay_ne2 {a b : Lay} (h : a.secs ≠ b.secs) : decide (a = b) = false := decide_eq_false fun e => h (by rw [e])
theorem lay_ne3 {a b : Lay} (h : a.els ≠ b.els) : decide (a = b) = false := decide_eq_false fun e => h (by rw [e])
theorem lay_ne4 {a b : Lay} (h : a.jts ≠ b.jts) : decide (a = b) = false := decide_eq_false fun e => h (by rw [e])
theorem lay_ne5 {a b : Lay} (h : a.sgs ≠ b.sgs) : decide (a = b) = false := decide_eq_false fun e => h (by rw [e])
theorem lay_ne6 {a b : Lay} (h : a.bls ≠ b.bls) : decide (a = b) = false := decide_eq_false fun e => h (by rw [e])
theorem lay_eq {a b : Lay} (h1 : a.name = b.name) (h2 : a.secs = b.secs) (h3 : a.els = b.els) (h4 : a.jts = b.jts) (h5 : a.sgs = b.sgs) (h6 : a.bls = b.bls) : decide (a = b) = true := by
  obtain ⟨a1, a2, a3, a4, a5, a6⟩ := a
  obtain ⟨b1, b2, b3, b4, b5, b6⟩ := b
  simp only at *
  subst h1 h2 h3 h4 h5 h6
  simp
theorem len_ne {α : Type} {a b : List α} (h : a.length ≠ b.length) : a ≠ b := fun e => h (by rw [e])
theorem sameLineC {a b : List (List UInt8)} {r : Bool} (h : decide (a = b) = r) (A B : Option Addr) (ca cb : Nat) (w : World) (ha : RdS cS w (Lt w) A a) (hb : RdS cS w (Lt w) B b) (la : a.length ≤ maxLen) (lb : b.length ≤ maxLen) :
    Calls Tryz.prog 24 #[.slice A a.length ca, .slice B b.length cb] w fun e w' => e = .returned (.bool r) ∧ Below w.heap.size w w' := (h ▸ sameLine_any a b A B ca cb w ha hb la lb).mono fun _ _ ⟨h1, h2⟩ => ⟨h1, h2.below⟩
set_option maxRecDepth 100000 in
set_option maxHeartbeats 16000000 in
theorem sameL_any (a b : LV) (w : World) (ha : LvR w a) (hb : LvR w b) : Calls Tryz.prog 10 #[lvA a, lvA b] w fun e w' => e = .returned (.bool (decide (a.l = b.l))) ∧ Below w.heap.size w w' := by
  have hB := B2.new ha hb
  have hs1 : ∀ W, B2 w a b W → Calls Tryz.prog 24 #[.slice a.A1 a.l.secs.length a.c1, .slice b.A1 b.l.secs.length b.c1] W fun e w' => e = .returned (.bool (decide (a.l.secs = b.l.secs))) ∧ Below W.heap.size W w' := fun W h => sameLineC rfl _ _ _ _ W h.ra.r1 h.rb.r1 h.ra.n1.1 h.rb.n1.1
  have HS := Lib.hid hs1
  clear hs1
  have x0 := hB.ba.cell 0
  have y0 := hB.bb.cell 0
  have x1 := hB.ba.cell 1
  have y1 := hB.bb.cell 1
  have x2 := hB.ba.cell 2
  have y2 := hB.bb.cell 2
  have x3 := hB.ba.cell 3
  have y3 := hB.bb.cell 3
  have x4 := hB.ba.cell 4
  have y4 := hB.bb.cell 4
  have x5 := hB.ba.cell 5
  have y5 := hB.bb.cell 5
  simp only [List.getElem?_toArray, List.getElem?_cons_zero, List.getElem?_cons_succ] at x0 x1 x2 x3 x4 x5 y0 y1 y2 y3 y4 y5
  by_cases h1 : a.l.name = b.l.name
  case neg =>
    have HF := Lib.hid (lay_ne1 h1)
    have hnb : (a.l.name == b.l.name) = false := by simp [h1]
    have hnb2 : (a.l.name != b.l.name) = true := by simp [h1]
    clear h1 ha hb
    unfold lvA
    go_enter Tryz.func10, Tryz.ntmps10
    go_wp2_with fail
    go_ret
    exact ⟨ret_b HF.out.symm, hB.bel⟩
  have hnb : (a.l.name == b.l.name) = true := by simp [h1]
  have hnb2 : (a.l.name != b.l.name) = false := by simp [h1]
  have H1 := Lib.hid h1
  clear h1
  by_cases h2 : a.l.secs = b.l.secs
  case neg =>
    have HF := Lib.hid (lay_ne2 h2)
    rw [decide_eq_false h2] at HS
    clear h2 ha hb
    unfold lvA
    go_enter Tryz.func10, Tryz.ntmps10
    go_wp2_with (go_at_call 24; refine (HS.out _ hB).mono ?_; rintro e w2 ⟨rfl, hq2⟩; have hB2 := hB.now hq2; clear hB x0 x1 x2 x3 x4 x5 y0 y1 y2 y3 y4 y5; have x0 := hB2.ba.cell 0; have y0 := hB2.bb.cell 0; have x1 := hB2.ba.cell 1; have y1 := hB2.bb.cell 1; have x2 := hB2.ba.cell 2; have y2 := hB2.bb.cell 2; have x3 := hB2.ba.cell 3; have y3 := hB2.bb.cell 3; have x4 := hB2.ba.cell 4; have y4 := hB2.bb.cell 4; have x5 := hB2.ba.cell 5; have y5 := hB2.bb.cell 5; simp only [List.getElem?_toArray, List.getElem?_cons_zero, List.getElem?_cons_succ] at x0 x1 x2 x3 x4 x5 y0 y1 y2 y3 y4 y5)
    go_ret
    exact ⟨ret_b HF.out.symm, hB2.bel⟩
  rw [decide_eq_true h2] at HS
  have H2 := Lib.hid h2
  clear h2
  by_cases h3 : a.l.els.length = b.l.els.length
  case neg =>
    have HF := Lib.hid (lay_ne3 (len_ne h3))
    have hl3 : ((a.l.els.length : Int) != (b.l.els.length : Int)) = true := by simp; omega
    clear h3 ha hb
    unfold lvA
    go_enter Tryz.func10, Tryz.ntmps10
    go_wp2_with (go_at_call 24; refine (HS.out _ hB).mono ?_; rintro e w2 ⟨rfl, hq2⟩; have hB2 := hB.now hq2; clear hB x0 x1 x2 x3 x4 x5 y0 y1 y2 y3 y4 y5; have x0 := hB2.ba.cell 0; have y0 := hB2.bb.cell 0; have x1 := hB2.ba.cell 1; have y1 := hB2.bb.cell 1; have x2 := hB2.ba.cell 2; have y2 := hB2.bb.cell 2; have x3 := hB2.ba.cell 3; have y3 := hB2.bb.cell 3; have x4 := hB2.ba.cell 4; have y4 := hB2.bb.cell 4; have x5 := hB2.ba.cell 5; have y5 := hB2.bb.cell 5; simp only [List.getElem?_toArray, List.getElem?_cons_zero, List.getElem?_cons_succ] at x0 x1 x2 x3 x4 x5 y0 y1 y2 y3 y4 y5)
    go_ret
    exact ⟨ret_b HF.out.symm, hB2.bel⟩
  have hl3 : ((a.l.els.length : Int) != (b.l.els.length : Int)) = false := by simp [h3]
  have HL3 := Lib.hid h3
  clear h3
  by_cases h4 : a.l.jts.length = b.l.jts.length
  case neg =>
    have HF := Lib.hid (lay_ne4 (len_ne h4))
    have hl4 : ((a.l.jts.length : Int) != (b.l.jts.length : Int)) = true := by simp; omega
    clear h4 ha hb
    unfold lvA
    go_enter Tryz.func10, Tryz.ntmps10
    go_wp2_with (go_at_call 24; refine (HS.out _ hB).mono ?_; rintro e w2 ⟨rfl, hq2⟩; have hB2 := hB.now hq2; clear hB x0 x1 x2 x3 x4 x5 y0 y1 y2 y3 y4 y5; have x0 := hB2.ba.cell 0; have y0 := hB2.bb.cell 0; have x1 := hB2.ba.cell 1; have y1 := hB2.bb.cell 1; have x2 := hB2.ba.cell 2; have y2 := hB2.bb.cell 2; have x3 := hB2.ba.cell 3; have y3 := hB2.bb.cell 3; have x4 := hB2.ba.cell 4; have y4 := hB2.bb.cell 4; have x5 := hB2.ba.cell 5; have y5 := hB2.bb.cell 5; simp only [List.getElem?_toArray, List.getElem?_cons_zero, List.getElem?_cons_succ] at x0 x1 x2 x3 x4 x5 y0 y1 y2 y3 y4 y5)
    go_ret
    exact ⟨ret_b HF.out.symm, hB2.bel⟩
  have hl4 : ((a.l.jts.length : Int) != (b.l.jts.length : Int)) = false := by simp [h4]
  have HL4 := Lib.hid h4
  clear h4
  by_cases h5 : a.l.sgs.length = b.l.sgs.length
  case neg =>
    have HF := Lib.hid (lay_ne5 (len_ne h5))
    have hl5 : ((a.l.sgs.length : Int) != (b.l.sgs.length : Int)) = true := by simp; omega
    clear h5 ha hb
    unfold lvA
    go_enter Tryz.func10, Tryz.ntmps10
    go_wp2_with (go_at_call 24; refine (HS.out _ hB).mono ?_; rintro e w2 ⟨rfl, hq2⟩; have hB2 := hB.now hq2; clear hB x0 x1 x2 x3 x4 x5 y0 y1 y2 y3 y4 y5; have x0 := hB2.ba.cell 0; have y0 := hB2.bb.cell 0; have x1 := hB2.ba.cell 1; have y1 := hB2.bb.cell 1; have x2 := hB2.ba.cell 2; have y2 := hB2.bb.cell 2; have x3 := hB2.ba.cell 3; have y3 := hB2.bb.cell 3; have x4 := hB2.ba.cell 4; have y4 := hB2.bb.cell 4; have x5 := hB2.ba.cell 5; have y5 := hB2.bb.cell 5; simp only [List.getElem?_toArray, List.getElem?_cons_zero, List.getElem?_cons_succ] at x0 x1 x2 x3 x4 x5 y0 y1 y2 y3 y4 y5)
    go_ret
    exact ⟨ret_b HF.out.symm, hB2.bel⟩
  have hl5 : ((a.l.sgs.length : Int) != (b.l.sgs.length : Int)) = false := by simp [h5]
  have HL5 := Lib.hid h5
  clear h5
  by_cases h6 : a.l.bls.length = b.l.bls.length
  case neg =>
    have HF := Lib.hid (lay_ne6 (len_ne h6))
    have hl6 : ((a.l.bls.length : Int) != (b.l.bls.length : Int)) = true := by simp; omega
    clear h6 ha hb
    unfold lvA
    go_enter Tryz.func10, Tryz.ntmps10
    go_wp2_with (go_at_call 24; refine (HS.out _ hB).mono ?_; rintro e w2 ⟨rfl, hq2⟩; have hB2 := hB.now hq2; clear hB x0 x1 x2 x3 x4 x5 y0 y1 y2 y3 y4 y5; have x0 := hB2.ba.cell 0; have y0 := hB2.bb.cell 0; have x1 := hB2.ba.cell 1; have y1 := hB2.bb.cell 1; have x2 := hB2.ba.cell 2; have y2 := hB2.bb.cell 2; have x3 := hB2.ba.cell 3; have y3 := hB2.bb.cell 3; have x4 := hB2.ba.cell 4; have y4 := hB2.bb.cell 4; have x5 := hB2.ba.cell 5; have y5 := hB2.bb.cell 5; simp only [List.getElem?_toArray, List.getElem?_cons_zero, List.getElem?_cons_succ] at x0 x1 x2 x3 x4 x5 y0 y1 y2 y3 y4 y5)
    go_ret
    exact ⟨ret_b HF.out.symm, hB2.bel⟩
  have hl6 : ((a.l.bls.length : Int) != (b.l.bls.length : Int)) = false := by simp [h6]
  have HL6 := Lib.hid h6
  clear h6
  have hm2 := ha.n2.1
  have hm3 := ha.n3.1
  have hm4 := ha.n4.1
  have hm5 := ha.n5.1
  unfold maxLen at hm2 hm3 hm4 hm5
  clear ha hb
  unfold lvA
  go_enter Tryz.func10, Tryz.ntmps10
  go_wp2_with (go_at_call 24; refine (HS.out _ hB).mono ?_; rintro e w2 ⟨rfl, hq2⟩; have hB2 := hB.now hq2; clear hB x0 x1 x2 x3 x4 x5 y0 y1 y2 y3 y4 y5; have x0 := hB2.ba.cell 0; have y0 := hB2.bb.cell 0; have x1 := hB2.ba.cell 1; have y1 := hB2.bb.cell 1; have x2 := hB2.ba.cell 2; have y2 := hB2.bb.cell 2; have x3 := hB2.ba.cell 3; have y3 := hB2.bb.cell 3; have x4 := hB2.ba.cell 4; have y4 := hB2.bb.cell 4; have x5 := hB2.ba.cell 5; have y5 := hB2.bb.cell 5; simp only [List.getElem?_toArray, List.getElem?_cons_zero, List.getElem?_cons_succ] at x0 x1 x2 x3 x4 x5 y0 y1 y2 y3 y4 y5)
  clear x0 x1 x2 x3 x4 x5 y0 y1 y2 y3 y4 y5
  go_loopw [5] (fun i wr => ∃ k : Nat, k ≤ a.l.els.length ∧ i = .int .i64 k ∧ B2 w a b wr ∧ Hid (a.l.els.take k = b.l.els.take k)) (fun i _ => a.l.els.length - (intOf i).toNat)
  case atStart => exact ⟨0, Nat.zero_le _, rfl, hB2, Lib.hid (by simp)⟩
  case round =>
    obtain ⟨k, hk, rfl, hB3, HK⟩ := hrel
    clear hB2
    have x2 := hB3.ba.cell 2
    have y2 := hB3.bb.cell 2
    simp only [List.getElem?_toArray, List.getElem?_cons_zero, List.getElem?_cons_succ] at x2 y2
    by_cases hlt : k < a.l.els.length
    · have hltb : k < b.l.els.length := by have := HL3.out; omega
      have hki : (k : Int) < (a.l.els.length : Int) := by omega
      have hki2 : (k : Int) < (b.l.els.length : Int) := by omega
      obtain ⟨p1, o1, hA, _, _, u0, u1, u2, u3, u4, u5, u6⟩ := hB3.ra.r2.elE hlt
      obtain ⟨p2, o2, hC, _, _, v0, v1, v2, v3, v4, v5, v6⟩ := hB3.rb.r2.elE hltb
      rw [hA] at x2
      rw [hC] at y2
      clear hA hC
      by_cases he : a.l.els[k] = b.l.els[k]
      · have HE := Lib.hid (take_eq_snoc hlt hltb HK.out he)
        rw [← he] at v0 v1 v2 v3 v4 v5 v6
        clear he
        generalize a.l.els[k] = q at *
        have heq : ∀ W, (Op.equalIn 10000 35 (.agg #[.string (bs q.name), .int .i64 q.kind, .int .i64 q.len, .int .i64 q.grd, .int .i64 q.spd, .int .i64 q.slow, .int .i64 q.sec]) (.agg #[.string (bs q.name), .int .i64 q.kind, .int .i64 q.len, .int .i64 q.grd, .int .i64 q.spd, .int .i64 q.slow, .int .i64 q.sec])).run Tryz.prog W = .ok true W := fun W => (by have h := eq_elt W 9998 q q; rw [decide_eq_true rfl] at h; exact h)
        go_wp2_with fail
        go_quiet (fail)
        go_wp2_with fail
        go_roundw
        case rel => exact ⟨k + 1, by omega, by go_num, by first | exact hB3.drewN _ | exact hB3, HE⟩
        case measure => simp [intOf]; omega
      · have HE := Lib.hid (ne_of_at hlt hltb he)
        generalize a.l.els[k] = q at *
        generalize b.l.els[k] = r at *
        have heq : ∀ W, (Op.equalIn 10000 35 (.agg #[.string (bs q.name), .int .i64 q.kind, .int .i64 q.len, .int .i64 q.grd, .int .i64 q.spd, .int .i64 q.slow, .int .i64 q.sec]) (.agg #[.string (bs r.name), .int .i64 r.kind, .int .i64 r.len, .int .i64 r.grd, .int .i64 r.spd, .int .i64 r.slow, .int .i64 r.sec])).run Tryz.prog W = .ok false W := fun W => (by have h := eq_elt W 9998 q r; rw [decide_eq_false he] at h; exact h)
        clear he
        go_wp2_with fail
        go_quiet (fail)
        go_wp2_with fail
        go_ret
        exact ⟨ret_b (lay_ne3 HE.out).symm, (hB3.drewN _).bel⟩
    · have HE3 := Lib.hid (eq_of_take hlt HL3.out HK.out)
      clear HK HL3
      go_wp2_with fail
      clear x2 y2
      have hB2 := hB3
      clear hB3
      go_loopw [6] (fun i wr => ∃ k : Nat, k ≤ a.l.jts.length ∧ i = .int .i64 k ∧ B2 w a b wr ∧ Hid (a.l.jts.take k = b.l.jts.take k)) (fun i _ => a.l.jts.length - (intOf i).toNat)
      case atStart => exact ⟨0, Nat.zero_le _, rfl, hB2, Lib.hid (by simp)⟩
      case round =>
        obtain ⟨k, hk, rfl, hB3, HK⟩ := hrel
        clear hB2
        have x3 := hB3.ba.cell 3
        have y3 := hB3.bb.cell 3
        simp only [List.getElem?_toArray, List.getElem?_cons_zero, List.getElem?_cons_succ] at x3 y3
        by_cases hlt : k < a.l.jts.length
        · have hltb : k < b.l.jts.length := by have := HL4.out; omega
          have hki : (k : Int) < (a.l.jts.length : Int) := by omega
          have hki2 : (k : Int) < (b.l.jts.length : Int) := by omega
          obtain ⟨p1, o1, hA, _, _, u0, u1, u2, u3⟩ := hB3.ra.r3.elJ hlt
          obtain ⟨p2, o2, hC, _, _, v0, v1, v2, v3⟩ := hB3.rb.r3.elJ hltb
          rw [hA] at x3
          rw [hC] at y3
          clear hA hC
          by_cases he : a.l.jts[k] = b.l.jts[k]
          · have HE := Lib.hid (take_eq_snoc hlt hltb HK.out he)
            rw [← he] at v0 v1 v2 v3
            clear he
            generalize a.l.jts[k] = q at *
            have heq : ∀ W, (Op.equalIn 10000 39 (.agg #[.int .i64 q.a.el, .int .i64 q.a.sd, .int .i64 q.b.el, .int .i64 q.b.sd]) (.agg #[.int .i64 q.a.el, .int .i64 q.a.sd, .int .i64 q.b.el, .int .i64 q.b.sd])).run Tryz.prog W = .ok true W := fun W => (by have h := eq_jnt W 9997 q q; rw [decide_eq_true rfl] at h; exact h)
            go_wp2_with fail
            go_quiet (fail)
            go_wp2_with fail
            go_roundw
            case rel => exact ⟨k + 1, by omega, by go_num, by first | exact hB3.drewN _ | exact hB3, HE⟩
            case measure => simp [intOf]; omega
          · have HE := Lib.hid (ne_of_at hlt hltb he)
            generalize a.l.jts[k] = q at *
            generalize b.l.jts[k] = r at *
            have heq : ∀ W, (Op.equalIn 10000 39 (.agg #[.int .i64 q.a.el, .int .i64 q.a.sd, .int .i64 q.b.el, .int .i64 q.b.sd]) (.agg #[.int .i64 r.a.el, .int .i64 r.a.sd, .int .i64 r.b.el, .int .i64 r.b.sd])).run Tryz.prog W = .ok false W := fun W => (by have h := eq_jnt W 9997 q r; rw [decide_eq_false he] at h; exact h)
            clear he
            go_wp2_with fail
            go_quiet (fail)
            go_wp2_with fail
            go_ret
            exact ⟨ret_b (lay_ne4 HE.out).symm, (hB3.drewN _).bel⟩
        · have HE4 := Lib.hid (eq_of_take hlt HL4.out HK.out)
          clear HK HL4
          go_wp2_with fail
          clear x3 y3
          have hB2 := hB3
          clear hB3
          go_loopw [7] (fun i wr => ∃ k : Nat, k ≤ a.l.sgs.length ∧ i = .int .i64 k ∧ B2 w a b wr ∧ Hid (a.l.sgs.take k = b.l.sgs.take k)) (fun i _ => a.l.sgs.length - (intOf i).toNat)
          case atStart => exact ⟨0, Nat.zero_le _, rfl, hB2, Lib.hid (by simp)⟩
          case round =>
            obtain ⟨k, hk, rfl, hB3, HK⟩ := hrel
            clear hB2
            have x4 := hB3.ba.cell 4
            have y4 := hB3.bb.cell 4
            simp only [List.getElem?_toArray, List.getElem?_cons_zero, List.getElem?_cons_succ] at x4 y4
            by_cases hlt : k < a.l.sgs.length
            · have hltb : k < b.l.sgs.length := by have := HL5.out; omega
              have hki : (k : Int) < (a.l.sgs.length : Int) := by omega
              have hki2 : (k : Int) < (b.l.sgs.length : Int) := by omega
              obtain ⟨p1, o1, hA, _, _, u0, u1, u2, u3⟩ := hB3.ra.r4.elG hlt
              obtain ⟨p2, o2, hC, _, _, v0, v1, v2, v3⟩ := hB3.rb.r4.elG hltb
              rw [hA] at x4
              rw [hC] at y4
              clear hA hC
              by_cases he : a.l.sgs[k] = b.l.sgs[k]
              · have HE := Lib.hid (take_eq_snoc hlt hltb HK.out he)
                rw [← he] at v0 v1 v2 v3
                clear he
                generalize a.l.sgs[k] = q at *
                have heq : ∀ W, (Op.equalIn 10000 41 (.agg #[.string (bs q.name), .int .i64 q.pos.el, .int .i64 q.pos.sd, .int .i64 q.ovl]) (.agg #[.string (bs q.name), .int .i64 q.pos.el, .int .i64 q.pos.sd, .int .i64 q.ovl])).run Tryz.prog W = .ok true W := fun W => (by have h := eq_sgn W 9997 q q; rw [decide_eq_true rfl] at h; exact h)
                go_wp2_with fail
                go_quiet (fail)
                go_wp2_with fail
                go_roundw
                case rel => exact ⟨k + 1, by omega, by go_num, by first | exact hB3.drewN _ | exact hB3, HE⟩
                case measure => simp [intOf]; omega
              · have HE := Lib.hid (ne_of_at hlt hltb he)
                generalize a.l.sgs[k] = q at *
                generalize b.l.sgs[k] = r at *
                have heq : ∀ W, (Op.equalIn 10000 41 (.agg #[.string (bs q.name), .int .i64 q.pos.el, .int .i64 q.pos.sd, .int .i64 q.ovl]) (.agg #[.string (bs r.name), .int .i64 r.pos.el, .int .i64 r.pos.sd, .int .i64 r.ovl])).run Tryz.prog W = .ok false W := fun W => (by have h := eq_sgn W 9997 q r; rw [decide_eq_false he] at h; exact h)
                clear he
                go_wp2_with fail
                go_quiet (fail)
                go_wp2_with fail
                go_ret
                exact ⟨ret_b (lay_ne5 HE.out).symm, (hB3.drewN _).bel⟩
            · have HE5 := Lib.hid (eq_of_take hlt HL5.out HK.out)
              clear HK HL5
              go_wp2_with fail
              clear x4 y4
              have hB2 := hB3
              clear hB3
              go_loopw [8] (fun i wr => ∃ k : Nat, k ≤ a.l.bls.length ∧ i = .int .i64 k ∧ B2 w a b wr ∧ Hid (a.l.bls.take k = b.l.bls.take k)) (fun i _ => a.l.bls.length - (intOf i).toNat)
              case atStart => exact ⟨0, Nat.zero_le _, rfl, hB2, Lib.hid (by simp)⟩
              case round =>
                obtain ⟨k, hk, rfl, hB3, HK⟩ := hrel
                clear hB2
                have x5 := hB3.ba.cell 5
                have y5 := hB3.bb.cell 5
                simp only [List.getElem?_toArray, List.getElem?_cons_zero, List.getElem?_cons_succ] at x5 y5
                by_cases hlt : k < a.l.bls.length
                · have hltb : k < b.l.bls.length := by have := HL6.out; omega
                  have hki : (k : Int) < (a.l.bls.length : Int) := by omega
                  have hki2 : (k : Int) < (b.l.bls.length : Int) := by omega
                  obtain ⟨p1, o1, hA, _, _, u0, u1, u2⟩ := hB3.ra.r5.elB hlt
                  obtain ⟨p2, o2, hC, _, _, v0, v1, v2⟩ := hB3.rb.r5.elB hltb
                  rw [hA] at x5
                  rw [hC] at y5
                  clear hA hC
                  by_cases he : a.l.bls[k] = b.l.bls[k]
                  · have HE := Lib.hid (take_eq_snoc hlt hltb HK.out he)
                    rw [← he] at v0 v1 v2
                    clear he
                    generalize a.l.bls[k] = q at *
                    have heq : ∀ W, (Op.equalIn 10000 51 (.agg #[.int .i64 q.id, .int .i64 q.el, .int .i64 q.off]) (.agg #[.int .i64 q.id, .int .i64 q.el, .int .i64 q.off])).run Tryz.prog W = .ok true W := fun W => (by have h := eq_bls W 9998 q q; rw [decide_eq_true rfl] at h; exact h)
                    go_wp2_with fail
                    go_quiet (fail)
                    go_wp2_with fail
                    go_roundw
                    case rel => exact ⟨k + 1, by omega, by go_num, by first | exact hB3.drewN _ | exact hB3, HE⟩
                    case measure => simp [intOf]; omega
                  · have HE := Lib.hid (ne_of_at hlt hltb he)
                    generalize a.l.bls[k] = q at *
                    generalize b.l.bls[k] = r at *
                    have heq : ∀ W, (Op.equalIn 10000 51 (.agg #[.int .i64 q.id, .int .i64 q.el, .int .i64 q.off]) (.agg #[.int .i64 r.id, .int .i64 r.el, .int .i64 r.off])).run Tryz.prog W = .ok false W := fun W => (by have h := eq_bls W 9998 q r; rw [decide_eq_false he] at h; exact h)
                    clear he
                    go_wp2_with fail
                    go_quiet (fail)
                    go_wp2_with fail
                    go_ret
                    exact ⟨ret_b (lay_ne6 HE.out).symm, (hB3.drewN _).bel⟩
                · have HE6 := Lib.hid (eq_of_take hlt HL6.out HK.out)
                  clear HK HL6
                  go_wp2_with fail
                  clear x5 y5
                  have hB2 := hB3
                  clear hB3
                  go_ret
                  exact ⟨ret_b (lay_eq H1.out H2.out HE3.out HE4.out HE5.out HE6.out).symm, hB2.bel⟩
def fewB (l : Lay) : Bool := decide (l.els.length ≤ 60) && (decide (l.jts.length ≤ 100) && (decide (l.bls.length ≤ 60) && (decide (l.sgs.length ≤ 60) && decide (l.secs.length ≤ 60))))
theorem fewB_iff {l : Lay} : fewB l = true ↔ l.els.length ≤ 60 ∧ l.jts.length ≤ 100 ∧ l.bls.length ≤ 60 ∧ l.sgs.length ≤ 60 ∧ l.secs.length ≤ 60 := by simp [fewB]
set_option maxHeartbeats 4000000 in
theorem few_any (v : LV) (w : World) (hr : LvR w v) : Calls Tryz.prog 4 #[lvA v] w fun e w' => e = .returned (.bool (fewB v.l)) ∧ Below w.heap.size w w' := by
  have hB := (Bx.new hr).bel
  unfold lvA
  go_enter Tryz.func4, Tryz.ntmps4
  go_wp2_with fail
  all_goals (go_ret; refine ⟨ret_b ?_, hB⟩; rw [Bool.eq_iff_iff, fewB_iff]; simp only [decide_eq_true_eq, Bool.false_eq_true, false_iff, true_iff, iff_false]; omega)
end Go.Proofs.YtopoknocfoiiaaaGreatDoor
