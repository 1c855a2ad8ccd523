/- The walks of the functions that look at each stop of a trip, and at the shape of starts. -/
import Derived.Test.YtaedelcbioiogaaTtWalksB
namespace Go.Proofs.Ytaedelcbioiogaa
set_option linter.unusedVariables false
set_option linter.unusedSimpArgs false
open Go.RowKit
theorem fewB_no {l : List Trp} {k : Nat} (h : k < l.length) (hf : ¬ l[k].2.length ≤ 20) : fewB l = false := by
  unfold fewB
  rw [all_no (k := k) h (by simpa using hf), Bool.and_false]
set_option maxRecDepth 100000 in
theorem few20_any (l : List Trp) (A : Option Addr) (c : Nat) (w : World) (hl : l.length ≤ 9223372036854775807) (hA : RdS cTrp w w.heap.size A l) :
    Calls Try.prog 16 #[.slice A l.length c] w fun e w' => e = .returned (.bool (fewB l)) ∧ Below w.heap.size w w' := by
  by_cases h20 : l.length ≤ 20
  · go_enter Try.func16, Try.ntmps16
    go_wp2_with fail
    go_loopw [3] (fun i wr => ∃ k : Nat, k ≤ l.length ∧ i = .int .i64 k ∧ (l.take k).all (fun p => decide (p.2.length ≤ 20)) = true ∧ Below w.heap.size w wr) (fun i _ => (l.length - intOf i).toNat)
    case atStart => exact ⟨0, by omega, rfl, rfl, Below.refl _ _⟩
    case round =>
      obtain ⟨n, hk, rfl, htk, hbr⟩ := hrel
      have HK := Lib.hid htk
      clear htk
      have hz := hbr.size
      by_cases hlt : n < l.length
      · obtain ⟨b, off, A', c', rfl, hb1, h1, h2, h3, x0, x1⟩ := trp_at (hA.below hbr) hlt
        have HS := Lib.hid (all_take (fun p : Trp => decide (p.2.length ≤ 20)) hlt)
        have HD := Lib.hid (fewB_no hlt)
        clear hA
        generalize l[n] = x at h1 h2 h3 x0 x1 HS HD
        have hn : (n : Int) < (l.length : Int) := by omega
        by_cases hx : x.2.length ≤ 20
        · go_wp2_with fail
          go_roundw
          case rel => exact ⟨n + 1, by omega, by go_num, by rw [HS.out, HK.out]; simpa using hx, hbr⟩
          case measure => simp [intOf] <;> omega
        · go_wp2_with fail
          go_ret
          exact ⟨by rw [HD.out hx]; rfl, hbr⟩
      · have HN := Lib.hid (show fewB l = true by
          have := HK.out
          rw [List.take_of_length_le (by omega)] at this
          unfold fewB
          rw [this, decide_eq_true h20]; rfl)
        go_wp2_with fail
        go_ret
        exact ⟨by rw [HN.out]; rfl, hbr⟩
  · have hf : fewB l = false := by unfold fewB; rw [decide_eq_false h20, Bool.false_and]
    have HF := Lib.hid hf
    clear hf
    go_enter Try.func16, Try.ntmps16
    go_wp2_with fail
    go_ret
    exact ⟨by rw [HF.out]; rfl, Below.refl _ _⟩
/-! ### Right stops -/
theorem trp_no {n : Nat} {p : Trp} {k : Nat} (h : k < p.2.length) (hf : stpB n p.2[k] = false) : trpB n p = false := by
  unfold trpB
  rw [all_no h hf, Bool.and_false]
theorem trp_yes {n : Nat} {p : Trp} {k : Nat} (h : ¬ k < p.2.length) (ht : trainB p.1 = true) (ha : (p.2.take k).all (stpB n) = true) : trpB n p = true := by
  rw [List.take_of_length_le (by omega)] at ha
  unfold trpB
  rw [ha, ht]; rfl
set_option maxRecDepth 100000 in
set_option maxHeartbeats 2000000 in
theorem right_any (R : List Rte) (B : Option Addr) (d : Nat) (y z : Sl) (s g : Int) (p : Trp) (A : Option Addr) (c : Nat) (w : World) (hR : R.length ≤ 9223372036854775807) (hl : p.2.length ≤ 9223372036854775807) (hA : RdS cStp w w.heap.size A p.2) :
    Calls Try.prog 23 #[.agg #[.slice B R.length d, .slice y.1 y.2.1 y.2.2, .slice z.1 z.2.1 z.2.2, .int .i64 s, .int .i64 g], .agg #[.int .i64 p.1, .slice A p.2.length c]] w fun e w' => e = .returned (.bool (trpB R.length p)) ∧ Below w.heap.size w w' := by
  by_cases ht : trainB p.1 = true
  · have ht' : 1 ≤ p.1 ∧ p.1 ≤ 99 := by simpa [trainB] using ht
    obtain ⟨t1, t2⟩ := ht'
    have HT := Lib.hid ht
    clear ht
    go_enter Try.func23, Try.ntmps23
    go_wp2_with fail
    go_loopw [5] (fun i wr => ∃ k : Nat, k ≤ p.2.length ∧ i = .int .i64 k ∧ (p.2.take k).all (stpB R.length) = true ∧ Blk wr w.heap.size 25 #[.slice B R.length d, .slice y.1 y.2.1 y.2.2, .slice z.1 z.2.1 z.2.2, .int .i64 s, .int .i64 g] ∧ Blk wr (w.heap.size + 1) 50 #[.int .i64 p.1, .slice A p.2.length c] ∧ Below w.heap.size w wr) (fun i _ => (p.2.length - intOf i).toNat)
    case atStart => exact ⟨0, by omega, rfl, rfl, by (repeat' (first | (with_reducible assumption) | (with_reducible refine Blk.new _ _ _ _ ?_) | (with_reducible refine Blk.drewN ?_ _) | (with_reducible refine Blk.drew ?_) | (with_reducible refine Blk.alloc ?_ _) | (with_reducible refine Blk.far ?_ ?_ _) | rfl | omega | (simp; done) | (simp; omega))), by (repeat' (first | (with_reducible assumption) | (with_reducible refine Blk.new _ _ _ _ ?_) | (with_reducible refine Blk.drewN ?_ _) | (with_reducible refine Blk.drew ?_) | (with_reducible refine Blk.alloc ?_ _) | (with_reducible refine Blk.far ?_ ?_ _) | rfl | omega | (simp; done) | (simp; omega))), by (repeat' (first | (with_reducible exact Below.refl _ _) | (with_reducible assumption) | (with_reducible refine Below.drewN ?_ _) | (with_reducible refine Below.drew ?_) | (with_reducible refine Below.alloc ?_ ?_ _) | (with_reducible refine Below.setCell ?_ ?_ _) | (with_reducible exact Nat.le_refl _) | (with_reducible exact Below.size (by assumption)) | omega | (simp only [World.size_alloc, World.size_setCell, World.size_drew]; omega) | (simp; done) | (simp; omega)))⟩
    case round =>
      obtain ⟨n, hk, rfl, htk, hB1, hB2, hbr⟩ := hrel
      have HK := Lib.hid htk
      clear htk
      have hz := hB2.lt
      have hz0 := hB1.lt
      have b0 := hB1.cell 0
      have p0 := hB2.cell 0
      have p1 := hB2.cell 1
      simp only [List.getElem?_toArray, List.getElem?_cons_succ, List.getElem?_cons_zero] at b0 p0 p1
      by_cases hlt : n < p.2.length
      · obtain ⟨b, off, rfl, hb, _, x0, x1, x2, x3⟩ := stp_at (hA.below hbr) hlt
        have HS := Lib.hid (all_take (stpB R.length) hlt)
        have HD := Lib.hid (trp_no (n := R.length) hlt)
        clear hA
        generalize p.2[n] = x at x0 x1 x2 x3 HS HD
        obtain ⟨a0, a1, a2, a3⟩ := x
        have hn : (n : Int) < (p.2.length : Int) := by omega
        go_wp2_with fail
        all_goals first
          | (have hno : stpB R.length (a0, a1, a2, a3) = false := by simp [stpB]; omega
             go_ret
             exact ⟨by rw [HD.out hno]; rfl, by (repeat' (first | (with_reducible exact Below.refl _ _) | (with_reducible assumption) | (with_reducible refine Below.drewN ?_ _) | (with_reducible refine Below.drew ?_) | (with_reducible refine Below.alloc ?_ ?_ _) | (with_reducible refine Below.setCell ?_ ?_ _) | (with_reducible exact Nat.le_refl _) | (with_reducible exact Below.size (by assumption)) | omega | (simp only [World.size_alloc, World.size_setCell, World.size_drew]; omega) | (simp; done) | (simp; omega)))⟩)
          | (have hyes : stpB R.length (a0, a1, a2, a3) = true := by simp [stpB]; omega
             go_roundw
             case rel => exact ⟨n + 1, by omega, by go_num, by rw [HS.out, HK.out, hyes]; rfl, by (repeat' (first | (with_reducible assumption) | (with_reducible refine Blk.new _ _ _ _ ?_) | (with_reducible refine Blk.drewN ?_ _) | (with_reducible refine Blk.drew ?_) | (with_reducible refine Blk.alloc ?_ _) | (with_reducible refine Blk.far ?_ ?_ _) | rfl | omega | (simp; done) | (simp; omega))), by (repeat' (first | (with_reducible assumption) | (with_reducible refine Blk.new _ _ _ _ ?_) | (with_reducible refine Blk.drewN ?_ _) | (with_reducible refine Blk.drew ?_) | (with_reducible refine Blk.alloc ?_ _) | (with_reducible refine Blk.far ?_ ?_ _) | rfl | omega | (simp; done) | (simp; omega))), by (repeat' (first | (with_reducible exact Below.refl _ _) | (with_reducible assumption) | (with_reducible refine Below.drewN ?_ _) | (with_reducible refine Below.drew ?_) | (with_reducible refine Below.alloc ?_ ?_ _) | (with_reducible refine Below.setCell ?_ ?_ _) | (with_reducible exact Nat.le_refl _) | (with_reducible exact Below.size (by assumption)) | omega | (simp only [World.size_alloc, World.size_setCell, World.size_drew]; omega) | (simp; done) | (simp; omega)))⟩
             case measure => simp [intOf] <;> omega)
      · have HN := Lib.hid (trp_yes (n := R.length) hlt HT.out HK.out)
        go_wp2_with fail
        go_ret
        exact ⟨by rw [HN.out]; rfl, by (repeat' (first | (with_reducible exact Below.refl _ _) | (with_reducible assumption) | (with_reducible refine Below.drewN ?_ _) | (with_reducible refine Below.drew ?_) | (with_reducible refine Below.alloc ?_ ?_ _) | (with_reducible refine Below.setCell ?_ ?_ _) | (with_reducible exact Nat.le_refl _) | (with_reducible exact Below.size (by assumption)) | omega | (simp only [World.size_alloc, World.size_setCell, World.size_drew]; omega) | (simp; done) | (simp; omega)))⟩
  · have hf : trpB R.length p = false := by unfold trpB; simp only [Bool.not_eq_true] at ht; rw [ht, Bool.false_and]
    have HF := Lib.hid hf
    clear hf
    have ht' : ¬ (1 ≤ p.1 ∧ p.1 ≤ 99) := by simpa [trainB] using ht
    clear ht
    go_enter Try.func23, Try.ntmps23
    go_wp2_with fail
    all_goals first
      | (exfalso; omega)
      | (go_ret; exact ⟨by rw [HF.out]; rfl, by (repeat' (first | (with_reducible exact Below.refl _ _) | (with_reducible assumption) | (with_reducible refine Below.drewN ?_ _) | (with_reducible refine Below.drew ?_) | (with_reducible refine Below.alloc ?_ ?_ _) | (with_reducible refine Below.setCell ?_ ?_ _) | (with_reducible exact Nat.le_refl _) | (with_reducible exact Below.size (by assumption)) | omega | (simp only [World.size_alloc, World.size_setCell, World.size_drew]; omega) | (simp; done) | (simp; omega)))⟩)
set_option maxRecDepth 100000 in
set_option maxHeartbeats 2000000 in
theorem plain_any (R : List Rte) (B : Option Addr) (d : Nat) (y z : Sl) (s g : Int) (p : Trp) (A : Option Addr) (c : Nat) (w : World) (hR : R.length ≤ 9223372036854775807) (hl : p.2.length ≤ 9223372036854775807) (hA : RdS cStp w w.heap.size A p.2) :
    Calls Try.prog 21 #[.agg #[.slice B R.length d, .slice y.1 y.2.1 y.2.2, .slice z.1 z.2.1 z.2.2, .int .i64 s, .int .i64 g], .agg #[.int .i64 p.1, .slice A p.2.length c]] w fun e w' => e = .returned (.bool (trpB R.length p)) ∧ Below w.heap.size w w' := by
  by_cases ht : trainB p.1 = true
  · have ht' : 1 ≤ p.1 ∧ p.1 ≤ 99 := by simpa [trainB] using ht
    obtain ⟨t1, t2⟩ := ht'
    have HT := Lib.hid ht
    clear ht
    go_enter Try.func21, Try.ntmps21
    go_wp2_with fail
    go_loopw [18] (fun i wr => ∃ k : Nat, k ≤ p.2.length ∧ i = .int .i64 k ∧ (p.2.take k).all (stpB R.length) = true ∧ Blk wr w.heap.size 25 #[.slice B R.length d, .slice y.1 y.2.1 y.2.2, .slice z.1 z.2.1 z.2.2, .int .i64 s, .int .i64 g] ∧ Blk wr (w.heap.size + 1) 50 #[.int .i64 p.1, .slice A p.2.length c] ∧ Below w.heap.size w wr) (fun i _ => (p.2.length - intOf i).toNat)
    case atStart => exact ⟨0, by omega, rfl, rfl, by (repeat' (first | (with_reducible assumption) | (with_reducible refine Blk.new _ _ _ _ ?_) | (with_reducible refine Blk.drewN ?_ _) | (with_reducible refine Blk.drew ?_) | (with_reducible refine Blk.alloc ?_ _) | (with_reducible refine Blk.far ?_ ?_ _) | rfl | omega | (simp; done) | (simp; omega))), by (repeat' (first | (with_reducible assumption) | (with_reducible refine Blk.new _ _ _ _ ?_) | (with_reducible refine Blk.drewN ?_ _) | (with_reducible refine Blk.drew ?_) | (with_reducible refine Blk.alloc ?_ _) | (with_reducible refine Blk.far ?_ ?_ _) | rfl | omega | (simp; done) | (simp; omega))), by (repeat' (first | (with_reducible exact Below.refl _ _) | (with_reducible assumption) | (with_reducible refine Below.drewN ?_ _) | (with_reducible refine Below.drew ?_) | (with_reducible refine Below.alloc ?_ ?_ _) | (with_reducible refine Below.setCell ?_ ?_ _) | (with_reducible exact Nat.le_refl _) | (with_reducible exact Below.size (by assumption)) | omega | (simp only [World.size_alloc, World.size_setCell, World.size_drew]; omega) | (simp; done) | (simp; omega)))⟩
    case round =>
      obtain ⟨n, hk, rfl, htk, hB1, hB2, hbr⟩ := hrel
      have HK := Lib.hid htk
      clear htk
      have hz := hB2.lt
      have hz0 := hB1.lt
      have b0 := hB1.cell 0
      have p0 := hB2.cell 0
      have p1 := hB2.cell 1
      simp only [List.getElem?_toArray, List.getElem?_cons_succ, List.getElem?_cons_zero] at b0 p0 p1
      by_cases hlt : n < p.2.length
      · obtain ⟨b, off, rfl, hb, _, x0, x1, x2, x3⟩ := stp_at (hA.below hbr) hlt
        have HS := Lib.hid (all_take (stpB R.length) hlt)
        have HD := Lib.hid (trp_no (n := R.length) hlt)
        clear hA
        generalize p.2[n] = x at x0 x1 x2 x3 HS HD
        obtain ⟨a0, a1, a2, a3⟩ := x
        have hn : (n : Int) < (p.2.length : Int) := by omega
        go_wp2_with fail
        all_goals first
          | (have hno : stpB R.length (a0, a1, a2, a3) = false := by simp [stpB]; omega
             go_ret
             exact ⟨by rw [HD.out hno]; rfl, by (repeat' (first | (with_reducible exact Below.refl _ _) | (with_reducible assumption) | (with_reducible refine Below.drewN ?_ _) | (with_reducible refine Below.drew ?_) | (with_reducible refine Below.alloc ?_ ?_ _) | (with_reducible refine Below.setCell ?_ ?_ _) | (with_reducible exact Nat.le_refl _) | (with_reducible exact Below.size (by assumption)) | omega | (simp only [World.size_alloc, World.size_setCell, World.size_drew]; omega) | (simp; done) | (simp; omega)))⟩)
          | (have hyes : stpB R.length (a0, a1, a2, a3) = true := by simp [stpB]; omega
             go_roundw
             case rel => exact ⟨n + 1, by omega, by go_num, by rw [HS.out, HK.out, hyes]; rfl, by (repeat' (first | (with_reducible assumption) | (with_reducible refine Blk.new _ _ _ _ ?_) | (with_reducible refine Blk.drewN ?_ _) | (with_reducible refine Blk.drew ?_) | (with_reducible refine Blk.alloc ?_ _) | (with_reducible refine Blk.far ?_ ?_ _) | rfl | omega | (simp; done) | (simp; omega))), by (repeat' (first | (with_reducible assumption) | (with_reducible refine Blk.new _ _ _ _ ?_) | (with_reducible refine Blk.drewN ?_ _) | (with_reducible refine Blk.drew ?_) | (with_reducible refine Blk.alloc ?_ _) | (with_reducible refine Blk.far ?_ ?_ _) | rfl | omega | (simp; done) | (simp; omega))), by (repeat' (first | (with_reducible exact Below.refl _ _) | (with_reducible assumption) | (with_reducible refine Below.drewN ?_ _) | (with_reducible refine Below.drew ?_) | (with_reducible refine Below.alloc ?_ ?_ _) | (with_reducible refine Below.setCell ?_ ?_ _) | (with_reducible exact Nat.le_refl _) | (with_reducible exact Below.size (by assumption)) | omega | (simp only [World.size_alloc, World.size_setCell, World.size_drew]; omega) | (simp; done) | (simp; omega)))⟩
             case measure => simp [intOf] <;> omega)
      · have HN := Lib.hid (trp_yes (n := R.length) hlt HT.out HK.out)
        go_wp2_with fail
        go_ret
        exact ⟨by rw [HN.out]; rfl, by (repeat' (first | (with_reducible exact Below.refl _ _) | (with_reducible assumption) | (with_reducible refine Below.drewN ?_ _) | (with_reducible refine Below.drew ?_) | (with_reducible refine Below.alloc ?_ ?_ _) | (with_reducible refine Below.setCell ?_ ?_ _) | (with_reducible exact Nat.le_refl _) | (with_reducible exact Below.size (by assumption)) | omega | (simp only [World.size_alloc, World.size_setCell, World.size_drew]; omega) | (simp; done) | (simp; omega)))⟩
  · have hf : trpB R.length p = false := by unfold trpB; simp only [Bool.not_eq_true] at ht; rw [ht, Bool.false_and]
    have HF := Lib.hid hf
    clear hf
    have ht' : ¬ (1 ≤ p.1 ∧ p.1 ≤ 99) := by simpa [trainB] using ht
    clear ht
    go_enter Try.func21, Try.ntmps21
    go_wp2_with fail
    all_goals first
      | (exfalso; omega)
      | (go_ret; exact ⟨by rw [HF.out]; rfl, by (repeat' (first | (with_reducible exact Below.refl _ _) | (with_reducible assumption) | (with_reducible refine Below.drewN ?_ _) | (with_reducible refine Below.drew ?_) | (with_reducible refine Below.alloc ?_ ?_ _) | (with_reducible refine Below.setCell ?_ ?_ _) | (with_reducible exact Nat.le_refl _) | (with_reducible exact Below.size (by assumption)) | omega | (simp only [World.size_alloc, World.size_setCell, World.size_drew]; omega) | (simp; done) | (simp; omega)))⟩)
/-! ### The shape of starts -/
theorem shape_no {l : List Trp} {s : List (List Int)} {k : Nat} (h : k < l.length) (h' : k < s.length) (hf : ¬ l[k].2.length = s[k].length) : shapeB l s = false := by
  unfold shapeB
  rw [Bool.and_eq_false_iff]
  right
  exact all_no (k := k) (by simp; omega) (by simpa using hf)
theorem shape_yes {l : List Trp} {s : List (List Int)} (h : l.length = s.length) {k : Nat} (hk : ¬ k < l.length) (ha : ((l.zip s).take k).all (fun x => decide (x.1.2.length = x.2.length)) = true) : shapeB l s = true := by
  rw [List.take_of_length_le (by simp; omega)] at ha
  unfold shapeB
  rw [ha, decide_eq_true h]; rfl
theorem shape_take {l : List Trp} {s : List (List Int)} {k : Nat} (h : k < l.length) (h' : k < s.length) : ((l.zip s).take (k + 1)).all (fun x => decide (x.1.2.length = x.2.length)) = (((l.zip s).take k).all (fun x => decide (x.1.2.length = x.2.length)) && decide (l[k].2.length = s[k].length)) := by
  rw [all_take _ (show k < (l.zip s).length by simp; omega)]
  simp
set_option maxRecDepth 100000 in
theorem shape_any (l : List Trp) (A : Option Addr) (c : Nat) (s : List (List Int)) (B : Option Addr) (d : Nat) (w : World) (hl : l.length ≤ 9223372036854775807) (hs : s.length ≤ 9223372036854775807) (hA : RdS cTrp w w.heap.size A l) (hB : RdS (cL cI) w w.heap.size B s) :
    Calls Try.prog 29 #[.slice A l.length c, .slice B s.length d] w fun e w' => e = .returned (.bool (shapeB l s)) ∧ Below w.heap.size w w' := by
  by_cases he : l.length = s.length
  · have hne : ((l.length : Int) != (s.length : Int)) = false := by simp [he]
    have HL := Lib.hid he
    clear he
    go_enter Try.func29, Try.ntmps29
    go_wp2_with fail
    go_loopw [5] (fun i wr => ∃ k q : Nat, k ≤ l.length ∧ i = .int .i64 k ∧ ((l.zip s).take k).all (fun x => decide (x.1.2.length = x.2.length)) = true ∧ wr = w.drewN q) (fun i _ => (l.length - intOf i).toNat)
    case atStart => exact ⟨0, 0, by omega, rfl, by simp, rfl⟩
    case round =>
      obtain ⟨k, q, hk, rfl, htk, rfl⟩ := hrel
      have HK := Lib.hid htk
      clear htk
      by_cases hlt : k < l.length
      · have hlb : k < s.length := by have := HL.out; omega
        obtain ⟨b, off, A', c', rfl, hb1, h1, h2, h3, x0, x1⟩ := trp_at hA hlt
        obtain ⟨b', off', A2, c2, rfl, hb2, h4, h5, y0⟩ := rows_at hB hlb
        have HS := Lib.hid (shape_take hlt hlb)
        have HD := Lib.hid (shape_no hlt hlb)
        clear hA hB
        generalize l[k] = x at h1 h2 h3 x0 x1 HS HD
        generalize s[k] = y at h4 h5 y0 HS HD
        have hki : (k : Int) < (l.length : Int) := by omega
        have hki2 : (k : Int) < (s.length : Int) := by omega
        by_cases hxy : x.2.length = y.length
        · have hn1 : ((x.2.length : Int) != (y.length : Int)) = false := by simp [hxy]
          have HX := Lib.hid hxy
          clear hxy
          go_wp2_with fail
          go_quiet (fail)
          go_wp2_with fail
          go_roundw
          case rel => exact ⟨k + 1, _, by omega, by go_num, by rw [HS.out, HK.out]; simpa using HX.out, rfl⟩
          case measure => simp [intOf] <;> omega
        · have hn1 : ((x.2.length : Int) != (y.length : Int)) = true := by rw [bne_iff_ne]; omega
          have HX := Lib.hid hxy
          clear hxy
          go_wp2_with fail
          go_quiet (fail)
          go_wp2_with fail
          go_ret
          exact ⟨by rw [HD.out HX.out]; rfl, by (repeat' (first | (with_reducible exact Below.refl _ _) | (with_reducible assumption) | (with_reducible refine Below.drewN ?_ _) | (with_reducible refine Below.drew ?_) | (with_reducible refine Below.alloc ?_ ?_ _) | (with_reducible refine Below.setCell ?_ ?_ _) | (with_reducible exact Nat.le_refl _) | (with_reducible exact Below.size (by assumption)) | omega | (simp only [World.size_alloc, World.size_setCell, World.size_drew]; omega) | (simp; done) | (simp; omega)))⟩
      · have HN := Lib.hid (shape_yes HL.out hlt HK.out)
        go_wp2_with fail
        go_ret
        exact ⟨by rw [HN.out]; rfl, by (repeat' (first | (with_reducible exact Below.refl _ _) | (with_reducible assumption) | (with_reducible refine Below.drewN ?_ _) | (with_reducible refine Below.drew ?_) | (with_reducible refine Below.alloc ?_ ?_ _) | (with_reducible refine Below.setCell ?_ ?_ _) | (with_reducible exact Nat.le_refl _) | (with_reducible exact Below.size (by assumption)) | omega | (simp only [World.size_alloc, World.size_setCell, World.size_drew]; omega) | (simp; done) | (simp; omega)))⟩
  · have hne : ((l.length : Int) != (s.length : Int)) = true := by rw [bne_iff_ne]; omega
    have hf : shapeB l s = false := by unfold shapeB; rw [decide_eq_false he, Bool.false_and]
    have HF := Lib.hid hf
    clear he hf
    go_enter Try.func29, Try.ntmps29
    go_wp2_with fail
    go_ret
    exact ⟨by rw [HF.out]; rfl, Below.refl _ _⟩
end Go.Proofs.Ytaedelcbioiogaa
