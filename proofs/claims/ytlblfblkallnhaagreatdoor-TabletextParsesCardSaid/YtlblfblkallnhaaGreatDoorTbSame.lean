/- The walks of the reference's Same on lists, routes, tables. -/
import Derived.Test.YtlblfblkallnhaaGreatDoorTbCod
import Derived.Test.YtlblfblkallnhaaGreatDoorTbBase
import Derived.Deep.QuietTactic
import Derived.BigQuiet
import Derived.Deep.RegionHeld3
import Derived.Deep.Cut
namespace Go.Proofs.YtlblfblkallnhaaGreatDoor
set_option linter.unusedVariables false
set_option linter.unusedSimpArgs false
open Go.RowKit
attribute [local go_sem] bs_size bs_get bs_append bs_extract bs_toList
theorem stoodStp : Tryz.prog.stoodInHeld 50 = false := by kernel_rfl
theorem stoodStg : Tryz.prog.stoodInHeld 99 = false := by kernel_rfl
theorem stoodEn2 : Tryz.prog.stoodInHeld 107 = false := by kernel_rfl
set_option maxHeartbeats 4000000 in
theorem eq_stp (w : World) (d : Nat) (x y : Stp) : (Op.equalIn (d + 2) 50 (.agg #[.int .i64 x.el, .int .i64 x.inn, .int .i64 x.out]) (.agg #[.int .i64 y.el, .int .i64 y.inn, .int .i64 y.out])).run Tryz.prog w = .ok (decide (x = y)) w := by
  have h3 := Tryz.underlying3
  have hf := fields_of Tryz.underlying50
  rw [run_equalIn_struct w (d + 1) 50 _ _ (by rw [hf, Tryz.underlying50]) stoodStp, hf]
  obtain ⟨x0, x1, x2⟩ := x
  obtain ⟨y0, y1, y2⟩ := y
  by_cases e0 : x0 = y0
  case neg => simp [go_sem, e0, bs_toList]
  subst e0
  by_cases e1 : x1 = y1
  case neg => simp [go_sem, e1, bs_toList]
  subst e1
  by_cases e2 : x2 = y2
  case neg => simp [go_sem, e2, bs_toList]
  subst e2
  simp [go_sem, bs_toList]
set_option maxHeartbeats 4000000 in
theorem eq_stg (w : World) (d : Nat) (x y : Stg) : (Op.equalIn (d + 2) 99 (.agg #[.int .i64 x.el, .int .i64 x.pos]) (.agg #[.int .i64 y.el, .int .i64 y.pos])).run Tryz.prog w = .ok (decide (x = y)) w := by
  have h3 := Tryz.underlying3
  have hf := fields_of Tryz.underlying99
  rw [run_equalIn_struct w (d + 1) 99 _ _ (by rw [hf, Tryz.underlying99]) stoodStg, hf]
  obtain ⟨x0, x1⟩ := x
  obtain ⟨y0, y1⟩ := y
  by_cases e0 : x0 = y0
  case neg => simp [go_sem, e0, bs_toList]
  subst e0
  by_cases e1 : x1 = y1
  case neg => simp [go_sem, e1, bs_toList]
  subst e1
  simp [go_sem, bs_toList]
set_option maxHeartbeats 4000000 in
theorem eq_en2 (w : World) (d : Nat) (x y : End2) : (Op.equalIn (d + 2) 107 (.agg #[.int .i64 x.el, .int .i64 x.sd]) (.agg #[.int .i64 y.el, .int .i64 y.sd])).run Tryz.prog w = .ok (decide (x = y)) w := by
  have h3 := Tryz.underlying3
  have hf := fields_of Tryz.underlying107
  rw [run_equalIn_struct w (d + 1) 107 _ _ (by rw [hf, Tryz.underlying107]) stoodEn2, hf]
  obtain ⟨x0, x1⟩ := x
  obtain ⟨y0, y1⟩ := y
  by_cases e0 : x0 = y0
  case neg => simp [go_sem, e0, bs_toList]
  subst e0
  by_cases e1 : x1 = y1
  case neg => simp [go_sem, e1, bs_toList]
  subst e1
  simp [go_sem, bs_toList]
attribute [-go_sem] run_equalIn_agg
set_option maxRecDepth 100000 in
set_option maxHeartbeats 4000000 in
theorem s9stp_any (a b : List Stp) (A B : Option Addr) (ca cb : Nat) (w : World) (ha : RdS cStp w (Lt w) A a) (hb : RdS cStp w (Lt w) B b) (la : a.length ≤ maxLen) (lb : b.length ≤ maxLen) :
    Calls Tryz.prog 95 #[.slice A a.length ca, .slice B b.length cb] w fun e w' => e = .returned (.bool (decide (a = b))) ∧ Below w.heap.size w w' := by
  unfold maxLen at la lb
  by_cases hl : a.length = b.length
  · have hn : ((a.length : Int) != (b.length : Int)) = false := by simp [hl]
    have HL := Lib.hid hl
    clear hl
    go_enter Tryz.func95, Tryz.ntmps95
    go_wp2_with fail
    go_loopw [5] (fun i wr => ∃ k : Nat, k ≤ a.length ∧ i = .int .i64 k ∧ Hid (a.take k = b.take k) ∧ Dr w wr) (fun i _ => a.length - (intOf i).toNat)
    case atStart => exact ⟨0, Nat.zero_le _, rfl, Lib.hid (by simp), Dr.refl _⟩
    case round =>
      obtain ⟨k, hk, rfl, HK, hdr⟩ := hrel
      by_cases hlt : k < a.length
      · have hltb : k < b.length := by have := HL.out; omega
        obtain ⟨p1, o1, hA, _, _, x0, x1, x2⟩ := ha.elT hlt
        obtain ⟨p2, o2, hC, _, _, y0, y1, y2⟩ := hb.elT hltb
        subst hA
        subst hC
        clear ha hb
        obtain ⟨m, rfl⟩ := hdr
        have hki : (k : Int) < (a.length : Int) := by omega
        have hki2 : (k : Int) < (b.length : Int) := by omega
        by_cases he : a[k] = b[k]
        · have HE := Lib.hid (take_eq_snoc hlt hltb HK.out he)
          rw [← he] at y0 y1 y2
          clear he
          generalize a[k] = q at *
          have heq : ∀ W, (Op.equalIn 10000 50 (.agg #[.int .i64 q.el, .int .i64 q.inn, .int .i64 q.out]) (.agg #[.int .i64 q.el, .int .i64 q.inn, .int .i64 q.out])).run Tryz.prog W = .ok true W := fun W => (by have h := eq_stp W 9998 q q; rw [decide_eq_true rfl] at h; exact h)
          go_wp2_with fail
          go_quiet (fail)
          go_wp2_with fail
          go_roundw
          case rel => exact ⟨k + 1, by omega, by go_num, HE, by first | exact Dr.of _ _ | exact (Dr.of _ _).drewN _⟩
          case measure => simp [intOf]; omega
        · have HE := Lib.hid (ne_of_at hlt hltb he)
          generalize a[k] = q at *
          generalize b[k] = r at *
          have heq : ∀ W, (Op.equalIn 10000 50 (.agg #[.int .i64 q.el, .int .i64 q.inn, .int .i64 q.out]) (.agg #[.int .i64 r.el, .int .i64 r.inn, .int .i64 r.out])).run Tryz.prog W = .ok false W := fun W => (by have h := eq_stp W 9998 q r; rw [decide_eq_false he] at h; exact h)
          clear he
          go_wp2_with fail
          go_quiet (fail)
          go_wp2_with fail
          go_ret
          exact ⟨ret_b (decide_eq_false HE.out).symm, by first | exact (Dr.of _ _).below | exact ((Dr.of _ _).drewN _).below⟩
      · have HE := Lib.hid (eq_of_take hlt HL.out HK.out)
        go_wp2_with fail
        go_ret
        exact ⟨ret_b (decide_eq_true HE.out).symm, hdr.below⟩
  · have hn : ((a.length : Int) != (b.length : Int)) = true := by simp; omega
    have hne : a ≠ b := fun e => hl (by rw [e])
    have HN := Lib.hid hne
    clear hl hne
    go_enter Tryz.func95, Tryz.ntmps95
    go_wp2_with fail
    go_ret
    exact ⟨ret_b (decide_eq_false HN.out).symm, Below.refl _ _⟩
theorem s9stp_C {r : Bool} (a b : List Stp) (h : decide (a = b) = r) (A B : Option Addr) (ca cb : Nat) (w : World) (ha : RdS cStp w (Lt w) A a) (hb : RdS cStp w (Lt w) B b) (la : a.length ≤ maxLen) (lb : b.length ≤ maxLen) :
    Calls Tryz.prog 95 #[.slice A a.length ca, .slice B b.length cb] w fun e w' => e = .returned (.bool r) ∧ Below w.heap.size w w' := h ▸ s9stp_any a b A B ca cb w ha hb la lb
set_option maxRecDepth 100000 in
set_option maxHeartbeats 4000000 in
theorem s9stg_any (a b : List Stg) (A B : Option Addr) (ca cb : Nat) (w : World) (ha : RdS cStg w (Lt w) A a) (hb : RdS cStg w (Lt w) B b) (la : a.length ≤ maxLen) (lb : b.length ≤ maxLen) :
    Calls Tryz.prog 96 #[.slice A a.length ca, .slice B b.length cb] w fun e w' => e = .returned (.bool (decide (a = b))) ∧ Below w.heap.size w w' := by
  unfold maxLen at la lb
  by_cases hl : a.length = b.length
  · have hn : ((a.length : Int) != (b.length : Int)) = false := by simp [hl]
    have HL := Lib.hid hl
    clear hl
    go_enter Tryz.func96, Tryz.ntmps96
    go_wp2_with fail
    go_loopw [5] (fun i wr => ∃ k : Nat, k ≤ a.length ∧ i = .int .i64 k ∧ Hid (a.take k = b.take k) ∧ Dr w wr) (fun i _ => a.length - (intOf i).toNat)
    case atStart => exact ⟨0, Nat.zero_le _, rfl, Lib.hid (by simp), Dr.refl _⟩
    case round =>
      obtain ⟨k, hk, rfl, HK, hdr⟩ := hrel
      by_cases hlt : k < a.length
      · have hltb : k < b.length := by have := HL.out; omega
        obtain ⟨p1, o1, hA, _, _, x0, x1⟩ := ha.elG hlt
        obtain ⟨p2, o2, hC, _, _, y0, y1⟩ := hb.elG hltb
        subst hA
        subst hC
        clear ha hb
        obtain ⟨m, rfl⟩ := hdr
        have hki : (k : Int) < (a.length : Int) := by omega
        have hki2 : (k : Int) < (b.length : Int) := by omega
        by_cases he : a[k] = b[k]
        · have HE := Lib.hid (take_eq_snoc hlt hltb HK.out he)
          rw [← he] at y0 y1
          clear he
          generalize a[k] = q at *
          have heq : ∀ W, (Op.equalIn 10000 99 (.agg #[.int .i64 q.el, .int .i64 q.pos]) (.agg #[.int .i64 q.el, .int .i64 q.pos])).run Tryz.prog W = .ok true W := fun W => (by have h := eq_stg W 9998 q q; rw [decide_eq_true rfl] at h; exact h)
          go_wp2_with fail
          go_quiet (fail)
          go_wp2_with fail
          go_roundw
          case rel => exact ⟨k + 1, by omega, by go_num, HE, by first | exact Dr.of _ _ | exact (Dr.of _ _).drewN _⟩
          case measure => simp [intOf]; omega
        · have HE := Lib.hid (ne_of_at hlt hltb he)
          generalize a[k] = q at *
          generalize b[k] = r at *
          have heq : ∀ W, (Op.equalIn 10000 99 (.agg #[.int .i64 q.el, .int .i64 q.pos]) (.agg #[.int .i64 r.el, .int .i64 r.pos])).run Tryz.prog W = .ok false W := fun W => (by have h := eq_stg W 9998 q r; rw [decide_eq_false he] at h; exact h)
          clear he
          go_wp2_with fail
          go_quiet (fail)
          go_wp2_with fail
          go_ret
          exact ⟨ret_b (decide_eq_false HE.out).symm, by first | exact (Dr.of _ _).below | exact ((Dr.of _ _).drewN _).below⟩
      · have HE := Lib.hid (eq_of_take hlt HL.out HK.out)
        go_wp2_with fail
        go_ret
        exact ⟨ret_b (decide_eq_true HE.out).symm, hdr.below⟩
  · have hn : ((a.length : Int) != (b.length : Int)) = true := by simp; omega
    have hne : a ≠ b := fun e => hl (by rw [e])
    have HN := Lib.hid hne
    clear hl hne
    go_enter Tryz.func96, Tryz.ntmps96
    go_wp2_with fail
    go_ret
    exact ⟨ret_b (decide_eq_false HN.out).symm, Below.refl _ _⟩
theorem s9stg_C {r : Bool} (a b : List Stg) (h : decide (a = b) = r) (A B : Option Addr) (ca cb : Nat) (w : World) (ha : RdS cStg w (Lt w) A a) (hb : RdS cStg w (Lt w) B b) (la : a.length ≤ maxLen) (lb : b.length ≤ maxLen) :
    Calls Tryz.prog 96 #[.slice A a.length ca, .slice B b.length cb] w fun e w' => e = .returned (.bool r) ∧ Below w.heap.size w w' := h ▸ s9stg_any a b A B ca cb w ha hb la lb
set_option maxRecDepth 100000 in
set_option maxHeartbeats 4000000 in
theorem s9int_any (a b : List Int) (A B : Option Addr) (ca cb : Nat) (w : World) (ha : RdS cI w (Lt w) A a) (hb : RdS cI w (Lt w) B b) (la : a.length ≤ maxLen) (lb : b.length ≤ maxLen) :
    Calls Tryz.prog 97 #[.slice A a.length ca, .slice B b.length cb] w fun e w' => e = .returned (.bool (decide (a = b))) ∧ Below w.heap.size w w' := by
  unfold maxLen at la lb
  by_cases hl : a.length = b.length
  · have hn : ((a.length : Int) != (b.length : Int)) = false := by simp [hl]
    have HL := Lib.hid hl
    clear hl
    go_enter Tryz.func97, Tryz.ntmps97
    go_wp2_with fail
    go_loopw [5] (fun i wr => ∃ k : Nat, k ≤ a.length ∧ i = .int .i64 k ∧ Hid (a.take k = b.take k) ∧ Dr w wr) (fun i _ => a.length - (intOf i).toNat)
    case atStart => exact ⟨0, Nat.zero_le _, rfl, Lib.hid (by simp), Dr.refl _⟩
    case round =>
      obtain ⟨k, hk, rfl, HK, hdr⟩ := hrel
      by_cases hlt : k < a.length
      · have hltb : k < b.length := by have := HL.out; omega
        obtain ⟨p1, o1, hA, _, _, x0⟩ := ha.elI hlt
        obtain ⟨p2, o2, hC, _, _, y0⟩ := hb.elI hltb
        subst hA
        subst hC
        clear ha hb
        obtain ⟨m, rfl⟩ := hdr
        have hki : (k : Int) < (a.length : Int) := by omega
        have hki2 : (k : Int) < (b.length : Int) := by omega
        by_cases he : a[k] = b[k]
        · have HE := Lib.hid (take_eq_snoc hlt hltb HK.out he)
          rw [← he] at y0
          clear he
          generalize a[k] = q at *
          skip
          go_wp2_with fail
          go_quiet (fail)
          go_wp2_with fail
          go_roundw
          case rel => exact ⟨k + 1, by omega, by go_num, HE, by first | exact Dr.of _ _ | exact (Dr.of _ _).drewN _⟩
          case measure => simp [intOf]; omega
        · have HE := Lib.hid (ne_of_at hlt hltb he)
          generalize a[k] = q at *
          generalize b[k] = r at *
          have he2 : (q == r) = false := by simp [he]
          clear he
          go_wp2_with fail
          go_quiet (fail)
          go_wp2_with fail
          go_ret
          exact ⟨ret_b (decide_eq_false HE.out).symm, by first | exact (Dr.of _ _).below | exact ((Dr.of _ _).drewN _).below⟩
      · have HE := Lib.hid (eq_of_take hlt HL.out HK.out)
        go_wp2_with fail
        go_ret
        exact ⟨ret_b (decide_eq_true HE.out).symm, hdr.below⟩
  · have hn : ((a.length : Int) != (b.length : Int)) = true := by simp; omega
    have hne : a ≠ b := fun e => hl (by rw [e])
    have HN := Lib.hid hne
    clear hl hne
    go_enter Tryz.func97, Tryz.ntmps97
    go_wp2_with fail
    go_ret
    exact ⟨ret_b (decide_eq_false HN.out).symm, Below.refl _ _⟩
theorem s9int_C {r : Bool} (a b : List Int) (h : decide (a = b) = r) (A B : Option Addr) (ca cb : Nat) (w : World) (ha : RdS cI w (Lt w) A a) (hb : RdS cI w (Lt w) B b) (la : a.length ≤ maxLen) (lb : b.length ≤ maxLen) :
    Calls Tryz.prog 97 #[.slice A a.length ca, .slice B b.length cb] w fun e w' => e = .returned (.bool r) ∧ Below w.heap.size w w' := h ▸ s9int_any a b A B ca cb w ha hb la lb
set_option maxRecDepth 100000 in
set_option maxHeartbeats 4000000 in
theorem s12end_any (a b : List End2) (A B : Option Addr) (ca cb : Nat) (w : World) (ha : RdS cEnd w (Lt w) A a) (hb : RdS cEnd w (Lt w) B b) (la : a.length ≤ maxLen) (lb : b.length ≤ maxLen) :
    Calls Tryz.prog 72 #[.slice A a.length ca, .slice B b.length cb] w fun e w' => e = .returned (.bool (decide (a = b))) ∧ Below w.heap.size w w' := by
  unfold maxLen at la lb
  by_cases hl : a.length = b.length
  · have hn : ((a.length : Int) != (b.length : Int)) = false := by simp [hl]
    have HL := Lib.hid hl
    clear hl
    go_enter Tryz.func72, Tryz.ntmps72
    go_wp2_with fail
    go_loopw [5] (fun i wr => ∃ k : Nat, k ≤ a.length ∧ i = .int .i64 k ∧ Hid (a.take k = b.take k) ∧ Dr w wr) (fun i _ => a.length - (intOf i).toNat)
    case atStart => exact ⟨0, Nat.zero_le _, rfl, Lib.hid (by simp), Dr.refl _⟩
    case round =>
      obtain ⟨k, hk, rfl, HK, hdr⟩ := hrel
      by_cases hlt : k < a.length
      · have hltb : k < b.length := by have := HL.out; omega
        obtain ⟨p1, o1, hA, _, _, x0, x1⟩ := ha.elD hlt
        obtain ⟨p2, o2, hC, _, _, y0, y1⟩ := hb.elD hltb
        subst hA
        subst hC
        clear ha hb
        obtain ⟨m, rfl⟩ := hdr
        have hki : (k : Int) < (a.length : Int) := by omega
        have hki2 : (k : Int) < (b.length : Int) := by omega
        by_cases he : a[k] = b[k]
        · have HE := Lib.hid (take_eq_snoc hlt hltb HK.out he)
          rw [← he] at y0 y1
          clear he
          generalize a[k] = q at *
          have heq : ∀ W, (Op.equalIn 10000 107 (.agg #[.int .i64 q.el, .int .i64 q.sd]) (.agg #[.int .i64 q.el, .int .i64 q.sd])).run Tryz.prog W = .ok true W := fun W => (by have h := eq_en2 W 9998 q q; rw [decide_eq_true rfl] at h; exact h)
          go_wp2_with fail
          go_quiet (fail)
          go_wp2_with fail
          go_roundw
          case rel => exact ⟨k + 1, by omega, by go_num, HE, by first | exact Dr.of _ _ | exact (Dr.of _ _).drewN _⟩
          case measure => simp [intOf]; omega
        · have HE := Lib.hid (ne_of_at hlt hltb he)
          generalize a[k] = q at *
          generalize b[k] = r at *
          have heq : ∀ W, (Op.equalIn 10000 107 (.agg #[.int .i64 q.el, .int .i64 q.sd]) (.agg #[.int .i64 r.el, .int .i64 r.sd])).run Tryz.prog W = .ok false W := fun W => (by have h := eq_en2 W 9998 q r; rw [decide_eq_false he] at h; exact h)
          clear he
          go_wp2_with fail
          go_quiet (fail)
          go_wp2_with fail
          go_ret
          exact ⟨ret_b (decide_eq_false HE.out).symm, by first | exact (Dr.of _ _).below | exact ((Dr.of _ _).drewN _).below⟩
      · have HE := Lib.hid (eq_of_take hlt HL.out HK.out)
        go_wp2_with fail
        go_ret
        exact ⟨ret_b (decide_eq_true HE.out).symm, hdr.below⟩
  · have hn : ((a.length : Int) != (b.length : Int)) = true := by simp; omega
    have hne : a ≠ b := fun e => hl (by rw [e])
    have HN := Lib.hid hne
    clear hl hne
    go_enter Tryz.func72, Tryz.ntmps72
    go_wp2_with fail
    go_ret
    exact ⟨ret_b (decide_eq_false HN.out).symm, Below.refl _ _⟩
theorem s12end_C {r : Bool} (a b : List End2) (h : decide (a = b) = r) (A B : Option Addr) (ca cb : Nat) (w : World) (ha : RdS cEnd w (Lt w) A a) (hb : RdS cEnd w (Lt w) B b) (la : a.length ≤ maxLen) (lb : b.length ≤ maxLen) :
    Calls Tryz.prog 72 #[.slice A a.length ca, .slice B b.length cb] w fun e w' => e = .returned (.bool r) ∧ Below w.heap.size w w' := h ▸ s12end_any a b A B ca cb w ha hb la lb
set_option maxRecDepth 100000 in
set_option maxHeartbeats 4000000 in
theorem s7int_any (a b : List Int) (A B : Option Addr) (ca cb : Nat) (w : World) (ha : RdS cI w (Lt w) A a) (hb : RdS cI w (Lt w) B b) (la : a.length ≤ maxLen) (lb : b.length ≤ maxLen) :
    Calls Tryz.prog 31 #[.slice A a.length ca, .slice B b.length cb] w fun e w' => e = .returned (.bool (decide (a = b))) ∧ Below w.heap.size w w' := by
  unfold maxLen at la lb
  by_cases hl : a.length = b.length
  · have hn : ((a.length : Int) != (b.length : Int)) = false := by simp [hl]
    have HL := Lib.hid hl
    clear hl
    go_enter Tryz.func31, Tryz.ntmps31
    go_wp2_with fail
    go_loopw [13] (fun i wr => ∃ k : Nat, k ≤ a.length ∧ i = .int .i64 k ∧ Hid (a.take k = b.take k) ∧ Dr w wr) (fun i _ => a.length - (intOf i).toNat)
    case atStart => exact ⟨0, Nat.zero_le _, rfl, Lib.hid (by simp), Dr.refl _⟩
    case round =>
      obtain ⟨k, hk, rfl, HK, hdr⟩ := hrel
      by_cases hlt : k < a.length
      · have hltb : k < b.length := by have := HL.out; omega
        obtain ⟨p1, o1, hA, _, _, x0⟩ := ha.elI hlt
        obtain ⟨p2, o2, hC, _, _, y0⟩ := hb.elI hltb
        subst hA
        subst hC
        clear ha hb
        obtain ⟨m, rfl⟩ := hdr
        have hki : (k : Int) < (a.length : Int) := by omega
        have hki2 : (k : Int) < (b.length : Int) := by omega
        by_cases he : a[k] = b[k]
        · have HE := Lib.hid (take_eq_snoc hlt hltb HK.out he)
          rw [← he] at y0
          clear he
          generalize a[k] = q at *
          skip
          go_wp2_with fail
          go_quiet (fail)
          go_wp2_with fail
          go_roundw
          case rel => exact ⟨k + 1, by omega, by go_num, HE, by first | exact Dr.of _ _ | exact (Dr.of _ _).drewN _⟩
          case measure => simp [intOf]; omega
        · have HE := Lib.hid (ne_of_at hlt hltb he)
          generalize a[k] = q at *
          generalize b[k] = r at *
          have he2 : (q == r) = false := by simp [he]
          clear he
          go_wp2_with fail
          go_quiet (fail)
          go_wp2_with fail
          go_ret
          exact ⟨ret_b (decide_eq_false HE.out).symm, by first | exact (Dr.of _ _).below | exact ((Dr.of _ _).drewN _).below⟩
      · have HE := Lib.hid (eq_of_take hlt HL.out HK.out)
        go_wp2_with fail
        go_ret
        exact ⟨ret_b (decide_eq_true HE.out).symm, hdr.below⟩
  · have hn : ((a.length : Int) != (b.length : Int)) = true := by simp; omega
    have hne : a ≠ b := fun e => hl (by rw [e])
    have HN := Lib.hid hne
    clear hl hne
    go_enter Tryz.func31, Tryz.ntmps31
    go_wp2_with fail
    go_ret
    exact ⟨ret_b (decide_eq_false HN.out).symm, Below.refl _ _⟩
theorem s7int_C {r : Bool} (a b : List Int) (h : decide (a = b) = r) (A B : Option Addr) (ca cb : Nat) (w : World) (ha : RdS cI w (Lt w) A a) (hb : RdS cI w (Lt w) B b) (la : a.length ≤ maxLen) (lb : b.length ≤ maxLen) :
    Calls Tryz.prog 31 #[.slice A a.length ca, .slice B b.length cb] w fun e w' => e = .returned (.bool r) ∧ Below w.heap.size w w' := h ▸ s7int_any a b A B ca cb w ha hb la lb
theorem s12stp_C {r : Bool} (a b : List Stp) (h : decide (a = b) = r) (A B : Option Addr) (ca cb : Nat) (w : World) (ha : RdS cStp w (Lt w) A a) (hb : RdS cStp w (Lt w) B b) (la : a.length ≤ maxLen) (lb : b.length ≤ maxLen) :
    Calls Tryz.prog 69 #[.slice A a.length ca, .slice B b.length cb] w fun e w' => e = .returned (.bool r) ∧ Below w.heap.size w w' := by
  have HC := Lib.hid (s9stp_C a b h A B ca cb w ha hb la lb)
  clear ha hb h la lb
  go_enter Tryz.func69, Tryz.ntmps69
  go_wp2_with fail
  refine HC.out.mono ?_
  rintro e w1 ⟨rfl, hq⟩
  go_wp2_with fail
  go_ret
  exact ⟨rfl, hq⟩
theorem s12stg_C {r : Bool} (a b : List Stg) (h : decide (a = b) = r) (A B : Option Addr) (ca cb : Nat) (w : World) (ha : RdS cStg w (Lt w) A a) (hb : RdS cStg w (Lt w) B b) (la : a.length ≤ maxLen) (lb : b.length ≤ maxLen) :
    Calls Tryz.prog 70 #[.slice A a.length ca, .slice B b.length cb] w fun e w' => e = .returned (.bool r) ∧ Below w.heap.size w w' := by
  have HC := Lib.hid (s9stg_C a b h A B ca cb w ha hb la lb)
  clear ha hb h la lb
  go_enter Tryz.func70, Tryz.ntmps70
  go_wp2_with fail
  refine HC.out.mono ?_
  rintro e w1 ⟨rfl, hq⟩
  go_wp2_with fail
  go_ret
  exact ⟨rfl, hq⟩
theorem s12int_C {r : Bool} (a b : List Int) (h : decide (a = b) = r) (A B : Option Addr) (ca cb : Nat) (w : World) (ha : RdS cI w (Lt w) A a) (hb : RdS cI w (Lt w) B b) (la : a.length ≤ maxLen) (lb : b.length ≤ maxLen) :
    Calls Tryz.prog 71 #[.slice A a.length ca, .slice B b.length cb] w fun e w' => e = .returned (.bool r) ∧ Below w.heap.size w w' := by
  have HC := Lib.hid (s9int_C a b h A B ca cb w ha hb la lb)
  clear ha hb h la lb
  go_enter Tryz.func71, Tryz.ntmps71
  go_wp2_with fail
  refine HC.out.mono ?_
  rintro e w1 ⟨rfl, hq⟩
  go_wp2_with fail
  go_ret
  exact ⟨rfl, hq⟩
/-- Two routes boxed. -/
structure R2 (w0 : World) (a b : RouV) (w : World) : Prop where
  bel : Below w0.heap.size w0 w
  ba : Blk w w0.heap.size 41 #[.string (bs a.r.name), .int .i64 a.r.ent, .int .i64 a.r.ext, .slice a.A1 a.r.path.length a.c1, .slice a.A2 a.r.pts.length a.c2, .slice a.A3 a.r.secs.length a.c3, .int .i64 a.r.app, .int .i64 a.r.len, .slice a.A4 a.r.over.length a.c4, .slice a.A5 a.r.opts.length a.c5, .slice a.A6 a.r.osecs.length a.c6, .slice a.A7 a.r.flk.length a.c7, .slice a.A8 a.r.grd.length a.c8, .slice a.A9 a.r.gap.length a.c9]
  bb : Blk w (w0.heap.size + 1) 41 #[.string (bs b.r.name), .int .i64 b.r.ent, .int .i64 b.r.ext, .slice b.A1 b.r.path.length b.c1, .slice b.A2 b.r.pts.length b.c2, .slice b.A3 b.r.secs.length b.c3, .int .i64 b.r.app, .int .i64 b.r.len, .slice b.A4 b.r.over.length b.c4, .slice b.A5 b.r.opts.length b.c5, .slice b.A6 b.r.osecs.length b.c6, .slice b.A7 b.r.flk.length b.c7, .slice b.A8 b.r.grd.length b.c8, .slice b.A9 b.r.gap.length b.c9]
  ra : RvR w (Lt w) a
  rb : RvR w (Lt w) b
theorem R2.now {w0 w w' : World} {a b : RouV} (h : R2 w0 a b w) (hb : Below w.heap.size w w') : R2 w0 a b w' := ⟨bel_then h.bel h.bel.size hb, h.ba.now hb, h.bb.now hb, h.ra.now hb, h.rb.now hb⟩
theorem R2.new {w : World} {a b : RouV} (ha : RvR w (Lt w) a) (hb : RvR w (Lt w) b) : R2 w a b ((w.alloc (.cells #[.string (bs a.r.name), .int .i64 a.r.ent, .int .i64 a.r.ext, .slice a.A1 a.r.path.length a.c1, .slice a.A2 a.r.pts.length a.c2, .slice a.A3 a.r.secs.length a.c3, .int .i64 a.r.app, .int .i64 a.r.len, .slice a.A4 a.r.over.length a.c4, .slice a.A5 a.r.opts.length a.c5, .slice a.A6 a.r.osecs.length a.c6, .slice a.A7 a.r.flk.length a.c7, .slice a.A8 a.r.grd.length a.c8, .slice a.A9 a.r.gap.length a.c9] 41)).alloc (.cells #[.string (bs b.r.name), .int .i64 b.r.ent, .int .i64 b.r.ext, .slice b.A1 b.r.path.length b.c1, .slice b.A2 b.r.pts.length b.c2, .slice b.A3 b.r.secs.length b.c3, .int .i64 b.r.app, .int .i64 b.r.len, .slice b.A4 b.r.over.length b.c4, .slice b.A5 b.r.opts.length b.c5, .slice b.A6 b.r.osecs.length b.c6, .slice b.A7 b.r.flk.length b.c7, .slice b.A8 b.r.grd.length b.c8, .slice b.A9 b.r.gap.length b.c9] 41)) := by
  have h1 := (Below.refl w.heap.size w).alloc (Nat.le_refl _) (.cells #[.string (bs a.r.name), .int .i64 a.r.ent, .int .i64 a.r.ext, .slice a.A1 a.r.path.length a.c1, .slice a.A2 a.r.pts.length a.c2, .slice a.A3 a.r.secs.length a.c3, .int .i64 a.r.app, .int .i64 a.r.len, .slice a.A4 a.r.over.length a.c4, .slice a.A5 a.r.opts.length a.c5, .slice a.A6 a.r.osecs.length a.c6, .slice a.A7 a.r.flk.length a.c7, .slice a.A8 a.r.grd.length a.c8, .slice a.A9 a.r.gap.length a.c9] 41)
  have h2 := h1.alloc h1.size (.cells #[.string (bs b.r.name), .int .i64 b.r.ent, .int .i64 b.r.ext, .slice b.A1 b.r.path.length b.c1, .slice b.A2 b.r.pts.length b.c2, .slice b.A3 b.r.secs.length b.c3, .int .i64 b.r.app, .int .i64 b.r.len, .slice b.A4 b.r.over.length b.c4, .slice b.A5 b.r.opts.length b.c5, .slice b.A6 b.r.osecs.length b.c6, .slice b.A7 b.r.flk.length b.c7, .slice b.A8 b.r.grd.length b.c8, .slice b.A9 b.r.gap.length b.c9] 41)
  exact ⟨h2, (Blk.new w _ _ _ rfl).alloc _, Blk.new _ _ _ _ (by simp), ha.now h2, hb.now h2⟩
theorem rou_eq {a b : Rou} (h0 : a.name = b.name) (h1 : a.ent = b.ent) (h2 : a.ext = b.ext) (h3 : a.app = b.app) (h4 : a.len = b.len) (h5 : a.path = b.path) (h6 : a.pts = b.pts) (h7 : a.secs = b.secs) (h8 : a.over = b.over) (h9 : a.opts = b.opts) (h10 : a.osecs = b.osecs) (h11 : a.flk = b.flk) (h12 : a.grd = b.grd) (h13 : a.gap = b.gap) : decide (a = b) = true := by
  cases a; cases b
  simp only at *
  subst h0 h1 h2 h3 h4 h5 h6 h7 h8 h9 h10 h11 h12 h13
  simp
set_option maxRecDepth 100000 in
set_option maxHeartbeats 16000000 in
theorem sameR_any (a b : RouV) (w : World) (ha : RvR w (Lt w) a) (hb : RvR w (Lt w) b) : Calls Tryz.prog 32 #[.agg #[.string (bs a.r.name), .int .i64 a.r.ent, .int .i64 a.r.ext, .slice a.A1 a.r.path.length a.c1, .slice a.A2 a.r.pts.length a.c2, .slice a.A3 a.r.secs.length a.c3, .int .i64 a.r.app, .int .i64 a.r.len, .slice a.A4 a.r.over.length a.c4, .slice a.A5 a.r.opts.length a.c5, .slice a.A6 a.r.osecs.length a.c6, .slice a.A7 a.r.flk.length a.c7, .slice a.A8 a.r.grd.length a.c8, .slice a.A9 a.r.gap.length a.c9], .agg #[.string (bs b.r.name), .int .i64 b.r.ent, .int .i64 b.r.ext, .slice b.A1 b.r.path.length b.c1, .slice b.A2 b.r.pts.length b.c2, .slice b.A3 b.r.secs.length b.c3, .int .i64 b.r.app, .int .i64 b.r.len, .slice b.A4 b.r.over.length b.c4, .slice b.A5 b.r.opts.length b.c5, .slice b.A6 b.r.osecs.length b.c6, .slice b.A7 b.r.flk.length b.c7, .slice b.A8 b.r.grd.length b.c8, .slice b.A9 b.r.gap.length b.c9]] w fun e w' => e = .returned (.bool (decide (a.r = b.r))) ∧ Below w.heap.size w w' := by
  have h := R2.new ha hb
  clear ha hb
  have x0 := h.ba.cell 0
  have x1 := h.ba.cell 1
  have x2 := h.ba.cell 2
  have x6 := h.ba.cell 6
  have x7 := h.ba.cell 7
  have y0 := h.bb.cell 0
  have y1 := h.bb.cell 1
  have y2 := h.bb.cell 2
  have y6 := h.bb.cell 6
  have y7 := h.bb.cell 7
  simp only [List.getElem?_toArray, List.getElem?_cons_zero, List.getElem?_cons_succ] at x0 y0 x1 y1 x2 y2 x6 y6 x7 y7
  by_cases e0 : a.r.name = b.r.name
  case neg =>
    have HX : Hid (decide (a.r = b.r) = false) := Lib.hid (decide_eq_false fun e => e0 (by rw [e]))
    have t0 : (a.r.name != b.r.name) = true := by simp [e0]
    have t0' : (a.r.name == b.r.name) = false := by simp [e0]
    have hbb := h.bel
    clear h e0
    go_enter Tryz.func32, Tryz.ntmps32
    go_wp2_with fail
    go_ret
    exact ⟨ret_b HX.out.symm, hbb⟩
  have t0 : (a.r.name != b.r.name) = false := by simp [e0]
  have t0' : (a.r.name == b.r.name) = true := by simp [e0]
  have E0 := Lib.hid e0
  clear e0
  by_cases e1 : a.r.ent = b.r.ent
  case neg =>
    have HX : Hid (decide (a.r = b.r) = false) := Lib.hid (decide_eq_false fun e => e1 (by rw [e]))
    have t1 : (a.r.ent != b.r.ent) = true := by simp [e1]
    have hbb := h.bel
    clear h e1
    go_enter Tryz.func32, Tryz.ntmps32
    go_wp2_with fail
    go_ret
    exact ⟨ret_b HX.out.symm, hbb⟩
  have t1 : (a.r.ent != b.r.ent) = false := by simp [e1]
  have E1 := Lib.hid e1
  clear e1
  by_cases e2 : a.r.ext = b.r.ext
  case neg =>
    have HX : Hid (decide (a.r = b.r) = false) := Lib.hid (decide_eq_false fun e => e2 (by rw [e]))
    have t2 : (a.r.ext != b.r.ext) = true := by simp [e2]
    have hbb := h.bel
    clear h e2
    go_enter Tryz.func32, Tryz.ntmps32
    go_wp2_with fail
    go_ret
    exact ⟨ret_b HX.out.symm, hbb⟩
  have t2 : (a.r.ext != b.r.ext) = false := by simp [e2]
  have E2 := Lib.hid e2
  clear e2
  by_cases e3 : a.r.app = b.r.app
  case neg =>
    have HX : Hid (decide (a.r = b.r) = false) := Lib.hid (decide_eq_false fun e => e3 (by rw [e]))
    have t3 : (a.r.app != b.r.app) = true := by simp [e3]
    have hbb := h.bel
    clear h e3
    go_enter Tryz.func32, Tryz.ntmps32
    go_wp2_with fail
    go_ret
    exact ⟨ret_b HX.out.symm, hbb⟩
  have t3 : (a.r.app != b.r.app) = false := by simp [e3]
  have E3 := Lib.hid e3
  clear e3
  by_cases e4 : a.r.len = b.r.len
  case neg =>
    have HX : Hid (decide (a.r = b.r) = false) := Lib.hid (decide_eq_false fun e => e4 (by rw [e]))
    have t4 : (a.r.len != b.r.len) = true := by simp [e4]
    have hbb := h.bel
    clear h e4
    go_enter Tryz.func32, Tryz.ntmps32
    go_wp2_with fail
    go_ret
    exact ⟨ret_b HX.out.symm, hbb⟩
  have t4 : (a.r.len != b.r.len) = false := by simp [e4]
  have E4 := Lib.hid e4
  clear e4
  cases s0 : decide (a.r.path = b.r.path) with
  | false =>
    have HX : Hid (decide (a.r = b.r) = false) := Lib.hid (decide_eq_false fun e => of_decide_eq_false s0 (by rw [e]))
    have HC := Lib.hid fun W (hh : R2 w a b W) => s12stp_C a.r.path b.r.path s0 a.A1 b.A1 a.c1 b.c1 W hh.ra.r1 hh.rb.r1 hh.ra.o.n1.1 hh.rb.o.n1.1
    have x3 := h.ba.cell 3
    have y3 := h.bb.cell 3
    simp only [List.getElem?_toArray, List.getElem?_cons_zero, List.getElem?_cons_succ] at x3 y3
    have HH := Lib.hid h
    clear s0 h
    go_enter Tryz.func32, Tryz.ntmps32
    go_wp2_with fail
    refine (HC.out _ HH.out).mono ?_
    rintro e w1 ⟨rfl, hq⟩
    have g1 := HH.out.now hq
    clear hq HH HC x3 y3
    clear x0 y0 x1 y1 x2 y2 x6 y6 x7 y7
    go_wp2_with fail
    go_ret
    exact ⟨ret_b HX.out.symm, g1.bel⟩
  | true =>
    have S0 := Lib.hid (of_decide_eq_true s0)
    have HC := Lib.hid fun W (hh : R2 w a b W) => s12stp_C a.r.path b.r.path s0 a.A1 b.A1 a.c1 b.c1 W hh.ra.r1 hh.rb.r1 hh.ra.o.n1.1 hh.rb.o.n1.1
    have x3 := h.ba.cell 3
    have y3 := h.bb.cell 3
    simp only [List.getElem?_toArray, List.getElem?_cons_zero, List.getElem?_cons_succ] at x3 y3
    have HH := Lib.hid h
    clear s0 h
    go_enter Tryz.func32, Tryz.ntmps32
    go_wp2_with fail
    refine (HC.out _ HH.out).mono ?_
    rintro e w1 ⟨rfl, hq⟩
    have g1 := HH.out.now hq
    clear hq HH HC x3 y3
    clear x0 y0 x1 y1 x2 y2 x6 y6 x7 y7
    cases s1 : decide (a.r.pts = b.r.pts) with
    | false =>
      have HX : Hid (decide (a.r = b.r) = false) := Lib.hid (decide_eq_false fun e => of_decide_eq_false s1 (by rw [e]))
      have HC := Lib.hid (s12stg_C a.r.pts b.r.pts s1 a.A2 b.A2 a.c2 b.c2 _ g1.ra.r2 g1.rb.r2 g1.ra.o.n2.1 g1.rb.o.n2.1)
      have x4 := g1.ba.cell 4
      have y4 := g1.bb.cell 4
      simp only [List.getElem?_toArray, List.getElem?_cons_zero, List.getElem?_cons_succ] at x4 y4
      have HH := Lib.hid g1
      clear s1 g1
      go_wp2_with fail
      refine HC.out.mono ?_
      rintro e w2 ⟨rfl, hq⟩
      have g2 := HH.out.now hq
      clear hq HH HC x4 y4
      go_wp2_with fail
      go_ret
      exact ⟨ret_b HX.out.symm, g2.bel⟩
    | true =>
      have S1 := Lib.hid (of_decide_eq_true s1)
      have HC := Lib.hid (s12stg_C a.r.pts b.r.pts s1 a.A2 b.A2 a.c2 b.c2 _ g1.ra.r2 g1.rb.r2 g1.ra.o.n2.1 g1.rb.o.n2.1)
      have x4 := g1.ba.cell 4
      have y4 := g1.bb.cell 4
      simp only [List.getElem?_toArray, List.getElem?_cons_zero, List.getElem?_cons_succ] at x4 y4
      have HH := Lib.hid g1
      clear s1 g1
      go_wp2_with fail
      refine HC.out.mono ?_
      rintro e w2 ⟨rfl, hq⟩
      have g2 := HH.out.now hq
      clear hq HH HC x4 y4
      cases s2 : decide (a.r.secs = b.r.secs) with
      | false =>
        have HX : Hid (decide (a.r = b.r) = false) := Lib.hid (decide_eq_false fun e => of_decide_eq_false s2 (by rw [e]))
        have HC := Lib.hid (s12int_C a.r.secs b.r.secs s2 a.A3 b.A3 a.c3 b.c3 _ g2.ra.r3 g2.rb.r3 g2.ra.o.n3.1 g2.rb.o.n3.1)
        have x5 := g2.ba.cell 5
        have y5 := g2.bb.cell 5
        simp only [List.getElem?_toArray, List.getElem?_cons_zero, List.getElem?_cons_succ] at x5 y5
        have HH := Lib.hid g2
        clear s2 g2
        go_wp2_with fail
        refine HC.out.mono ?_
        rintro e w3 ⟨rfl, hq⟩
        have g3 := HH.out.now hq
        clear hq HH HC x5 y5
        go_wp2_with fail
        go_ret
        exact ⟨ret_b HX.out.symm, g3.bel⟩
      | true =>
        have S2 := Lib.hid (of_decide_eq_true s2)
        have HC := Lib.hid (s12int_C a.r.secs b.r.secs s2 a.A3 b.A3 a.c3 b.c3 _ g2.ra.r3 g2.rb.r3 g2.ra.o.n3.1 g2.rb.o.n3.1)
        have x5 := g2.ba.cell 5
        have y5 := g2.bb.cell 5
        simp only [List.getElem?_toArray, List.getElem?_cons_zero, List.getElem?_cons_succ] at x5 y5
        have HH := Lib.hid g2
        clear s2 g2
        go_wp2_with fail
        refine HC.out.mono ?_
        rintro e w3 ⟨rfl, hq⟩
        have g3 := HH.out.now hq
        clear hq HH HC x5 y5
        cases s3 : decide (a.r.over = b.r.over) with
        | false =>
          have HX : Hid (decide (a.r = b.r) = false) := Lib.hid (decide_eq_false fun e => of_decide_eq_false s3 (by rw [e]))
          have HC := Lib.hid (s12stp_C a.r.over b.r.over s3 a.A4 b.A4 a.c4 b.c4 _ g3.ra.r4 g3.rb.r4 g3.ra.o.n4.1 g3.rb.o.n4.1)
          have x8 := g3.ba.cell 8
          have y8 := g3.bb.cell 8
          simp only [List.getElem?_toArray, List.getElem?_cons_zero, List.getElem?_cons_succ] at x8 y8
          have HH := Lib.hid g3
          clear s3 g3
          go_wp2_with fail
          refine HC.out.mono ?_
          rintro e w4 ⟨rfl, hq⟩
          have g4 := HH.out.now hq
          clear hq HH HC x8 y8
          go_wp2_with fail
          go_ret
          exact ⟨ret_b HX.out.symm, g4.bel⟩
        | true =>
          have S3 := Lib.hid (of_decide_eq_true s3)
          have HC := Lib.hid (s12stp_C a.r.over b.r.over s3 a.A4 b.A4 a.c4 b.c4 _ g3.ra.r4 g3.rb.r4 g3.ra.o.n4.1 g3.rb.o.n4.1)
          have x8 := g3.ba.cell 8
          have y8 := g3.bb.cell 8
          simp only [List.getElem?_toArray, List.getElem?_cons_zero, List.getElem?_cons_succ] at x8 y8
          have HH := Lib.hid g3
          clear s3 g3
          go_wp2_with fail
          refine HC.out.mono ?_
          rintro e w4 ⟨rfl, hq⟩
          have g4 := HH.out.now hq
          clear hq HH HC x8 y8
          cases s4 : decide (a.r.opts = b.r.opts) with
          | false =>
            have HX : Hid (decide (a.r = b.r) = false) := Lib.hid (decide_eq_false fun e => of_decide_eq_false s4 (by rw [e]))
            have HC := Lib.hid (s12stg_C a.r.opts b.r.opts s4 a.A5 b.A5 a.c5 b.c5 _ g4.ra.r5 g4.rb.r5 g4.ra.o.n5.1 g4.rb.o.n5.1)
            have x9 := g4.ba.cell 9
            have y9 := g4.bb.cell 9
            simp only [List.getElem?_toArray, List.getElem?_cons_zero, List.getElem?_cons_succ] at x9 y9
            have HH := Lib.hid g4
            clear s4 g4
            go_wp2_with fail
            refine HC.out.mono ?_
            rintro e w5 ⟨rfl, hq⟩
            have g5 := HH.out.now hq
            clear hq HH HC x9 y9
            go_wp2_with fail
            go_ret
            exact ⟨ret_b HX.out.symm, g5.bel⟩
          | true =>
            have S4 := Lib.hid (of_decide_eq_true s4)
            have HC := Lib.hid (s12stg_C a.r.opts b.r.opts s4 a.A5 b.A5 a.c5 b.c5 _ g4.ra.r5 g4.rb.r5 g4.ra.o.n5.1 g4.rb.o.n5.1)
            have x9 := g4.ba.cell 9
            have y9 := g4.bb.cell 9
            simp only [List.getElem?_toArray, List.getElem?_cons_zero, List.getElem?_cons_succ] at x9 y9
            have HH := Lib.hid g4
            clear s4 g4
            go_wp2_with fail
            refine HC.out.mono ?_
            rintro e w5 ⟨rfl, hq⟩
            have g5 := HH.out.now hq
            clear hq HH HC x9 y9
            cases s5 : decide (a.r.osecs = b.r.osecs) with
            | false =>
              have HX : Hid (decide (a.r = b.r) = false) := Lib.hid (decide_eq_false fun e => of_decide_eq_false s5 (by rw [e]))
              have HC := Lib.hid (s12int_C a.r.osecs b.r.osecs s5 a.A6 b.A6 a.c6 b.c6 _ g5.ra.r6 g5.rb.r6 g5.ra.o.n6.1 g5.rb.o.n6.1)
              have x10 := g5.ba.cell 10
              have y10 := g5.bb.cell 10
              simp only [List.getElem?_toArray, List.getElem?_cons_zero, List.getElem?_cons_succ] at x10 y10
              have HH := Lib.hid g5
              clear s5 g5
              go_wp2_with fail
              refine HC.out.mono ?_
              rintro e w6 ⟨rfl, hq⟩
              have g6 := HH.out.now hq
              clear hq HH HC x10 y10
              go_wp2_with fail
              go_ret
              exact ⟨ret_b HX.out.symm, g6.bel⟩
            | true =>
              have S5 := Lib.hid (of_decide_eq_true s5)
              have HC := Lib.hid (s12int_C a.r.osecs b.r.osecs s5 a.A6 b.A6 a.c6 b.c6 _ g5.ra.r6 g5.rb.r6 g5.ra.o.n6.1 g5.rb.o.n6.1)
              have x10 := g5.ba.cell 10
              have y10 := g5.bb.cell 10
              simp only [List.getElem?_toArray, List.getElem?_cons_zero, List.getElem?_cons_succ] at x10 y10
              have HH := Lib.hid g5
              clear s5 g5
              go_wp2_with fail
              refine HC.out.mono ?_
              rintro e w6 ⟨rfl, hq⟩
              have g6 := HH.out.now hq
              clear hq HH HC x10 y10
              cases s6 : decide (a.r.flk = b.r.flk) with
              | false =>
                have HX : Hid (decide (a.r = b.r) = false) := Lib.hid (decide_eq_false fun e => of_decide_eq_false s6 (by rw [e]))
                have HC := Lib.hid (s12stg_C a.r.flk b.r.flk s6 a.A7 b.A7 a.c7 b.c7 _ g6.ra.r7 g6.rb.r7 g6.ra.o.n7.1 g6.rb.o.n7.1)
                have x11 := g6.ba.cell 11
                have y11 := g6.bb.cell 11
                simp only [List.getElem?_toArray, List.getElem?_cons_zero, List.getElem?_cons_succ] at x11 y11
                have HH := Lib.hid g6
                clear s6 g6
                go_wp2_with fail
                refine HC.out.mono ?_
                rintro e w7 ⟨rfl, hq⟩
                have g7 := HH.out.now hq
                clear hq HH HC x11 y11
                go_wp2_with fail
                go_ret
                exact ⟨ret_b HX.out.symm, g7.bel⟩
              | true =>
                have S6 := Lib.hid (of_decide_eq_true s6)
                have HC := Lib.hid (s12stg_C a.r.flk b.r.flk s6 a.A7 b.A7 a.c7 b.c7 _ g6.ra.r7 g6.rb.r7 g6.ra.o.n7.1 g6.rb.o.n7.1)
                have x11 := g6.ba.cell 11
                have y11 := g6.bb.cell 11
                simp only [List.getElem?_toArray, List.getElem?_cons_zero, List.getElem?_cons_succ] at x11 y11
                have HH := Lib.hid g6
                clear s6 g6
                go_wp2_with fail
                refine HC.out.mono ?_
                rintro e w7 ⟨rfl, hq⟩
                have g7 := HH.out.now hq
                clear hq HH HC x11 y11
                cases s7 : decide (a.r.grd = b.r.grd) with
                | false =>
                  have HX : Hid (decide (a.r = b.r) = false) := Lib.hid (decide_eq_false fun e => of_decide_eq_false s7 (by rw [e]))
                  have HC := Lib.hid (s12int_C a.r.grd b.r.grd s7 a.A8 b.A8 a.c8 b.c8 _ g7.ra.r8 g7.rb.r8 g7.ra.o.n8.1 g7.rb.o.n8.1)
                  have x12 := g7.ba.cell 12
                  have y12 := g7.bb.cell 12
                  simp only [List.getElem?_toArray, List.getElem?_cons_zero, List.getElem?_cons_succ] at x12 y12
                  have HH := Lib.hid g7
                  clear s7 g7
                  go_wp2_with fail
                  refine HC.out.mono ?_
                  rintro e w8 ⟨rfl, hq⟩
                  have g8 := HH.out.now hq
                  clear hq HH HC x12 y12
                  go_wp2_with fail
                  go_ret
                  exact ⟨ret_b HX.out.symm, g8.bel⟩
                | true =>
                  have S7 := Lib.hid (of_decide_eq_true s7)
                  have HC := Lib.hid (s12int_C a.r.grd b.r.grd s7 a.A8 b.A8 a.c8 b.c8 _ g7.ra.r8 g7.rb.r8 g7.ra.o.n8.1 g7.rb.o.n8.1)
                  have x12 := g7.ba.cell 12
                  have y12 := g7.bb.cell 12
                  simp only [List.getElem?_toArray, List.getElem?_cons_zero, List.getElem?_cons_succ] at x12 y12
                  have HH := Lib.hid g7
                  clear s7 g7
                  go_wp2_with fail
                  refine HC.out.mono ?_
                  rintro e w8 ⟨rfl, hq⟩
                  have g8 := HH.out.now hq
                  clear hq HH HC x12 y12
                  cases s8 : decide (a.r.gap = b.r.gap) with
                  | false =>
                    have HX : Hid (decide (a.r = b.r) = false) := Lib.hid (decide_eq_false fun e => of_decide_eq_false s8 (by rw [e]))
                    have HC := Lib.hid (s12end_C a.r.gap b.r.gap s8 a.A9 b.A9 a.c9 b.c9 _ g8.ra.r9 g8.rb.r9 g8.ra.o.n9.1 g8.rb.o.n9.1)
                    have x13 := g8.ba.cell 13
                    have y13 := g8.bb.cell 13
                    simp only [List.getElem?_toArray, List.getElem?_cons_zero, List.getElem?_cons_succ] at x13 y13
                    have HH := Lib.hid g8
                    clear s8 g8
                    go_wp2_with fail
                    refine HC.out.mono ?_
                    rintro e w9 ⟨rfl, hq⟩
                    have g9 := HH.out.now hq
                    clear hq HH HC x13 y13
                    go_wp2_with fail
                    go_ret
                    exact ⟨ret_b HX.out.symm, g9.bel⟩
                  | true =>
                    have S8 := Lib.hid (of_decide_eq_true s8)
                    have HC := Lib.hid (s12end_C a.r.gap b.r.gap s8 a.A9 b.A9 a.c9 b.c9 _ g8.ra.r9 g8.rb.r9 g8.ra.o.n9.1 g8.rb.o.n9.1)
                    have x13 := g8.ba.cell 13
                    have y13 := g8.bb.cell 13
                    simp only [List.getElem?_toArray, List.getElem?_cons_zero, List.getElem?_cons_succ] at x13 y13
                    have HH := Lib.hid g8
                    clear s8 g8
                    go_wp2_with fail
                    refine HC.out.mono ?_
                    rintro e w9 ⟨rfl, hq⟩
                    have g9 := HH.out.now hq
                    clear hq HH HC x13 y13
                    go_wp2_with fail
                    go_ret
                    exact ⟨ret_b (rou_eq E0.out E1.out E2.out E3.out E4.out S0.out S1.out S2.out S3.out S4.out S5.out S6.out S7.out S8.out).symm, g9.bel⟩
theorem sameRC {a b : RouV} {r : Bool} (h : decide (a.r = b.r) = r) (w : World) (ha : RvR w (Lt w) a) (hb : RvR w (Lt w) b) : Calls Tryz.prog 32 #[.agg #[.string (bs a.r.name), .int .i64 a.r.ent, .int .i64 a.r.ext, .slice a.A1 a.r.path.length a.c1, .slice a.A2 a.r.pts.length a.c2, .slice a.A3 a.r.secs.length a.c3, .int .i64 a.r.app, .int .i64 a.r.len, .slice a.A4 a.r.over.length a.c4, .slice a.A5 a.r.opts.length a.c5, .slice a.A6 a.r.osecs.length a.c6, .slice a.A7 a.r.flk.length a.c7, .slice a.A8 a.r.grd.length a.c8, .slice a.A9 a.r.gap.length a.c9], .agg #[.string (bs b.r.name), .int .i64 b.r.ent, .int .i64 b.r.ext, .slice b.A1 b.r.path.length b.c1, .slice b.A2 b.r.pts.length b.c2, .slice b.A3 b.r.secs.length b.c3, .int .i64 b.r.app, .int .i64 b.r.len, .slice b.A4 b.r.over.length b.c4, .slice b.A5 b.r.opts.length b.c5, .slice b.A6 b.r.osecs.length b.c6, .slice b.A7 b.r.flk.length b.c7, .slice b.A8 b.r.grd.length b.c8, .slice b.A9 b.r.gap.length b.c9]] w fun e w' => e = .returned (.bool r) ∧ Below w.heap.size w w' := h ▸ sameR_any a b w ha hb
end Go.Proofs.YtlblfblkallnhaaGreatDoor
