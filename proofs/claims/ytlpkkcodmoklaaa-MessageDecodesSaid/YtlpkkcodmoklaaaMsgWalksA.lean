/- The walks of the small functions on messages, and of the comparisons of rows. -/
import Derived.Test.YtlpkkcodmoklaaaMsgCod
import Derived.Deep.QuietTactic
import Derived.BigQuiet
import Derived.Outline
import Derived.Handy
namespace Go.Proofs.Ytlpkkcodmoklaaa
set_option linter.unusedVariables false
set_option linter.unusedSimpArgs false
open Go.RowKit
attribute [local go_sem high] eq_seg eq_lnk eq_rep
theorem bcell {w W1 : World} (hb : Below w.heap.size w W1) : (∀ b o, b < w.heap.size → W1.cell? ⟨b, o, none⟩ = w.cell? ⟨b, o, none⟩) :=
  fun b o h => hb.cell (p := ⟨b, o, none⟩) h
theorem within_any (n lo hi : Int) (w : World) : Calls Try.prog 72 #[.int .i64 n, .int .i64 lo, .int .i64 hi] w fun e w' => e = .returned (.bool (inB n lo hi)) ∧ w = w' := by
  go_enter Try.func72, Try.ntmps72
  go_wp2_with fail
  all_goals (go_ret; exact ⟨by simp [inB] <;> omega, rfl⟩)
theorem rin_any (n lo hi : Int) (w : World) : Calls Try.prog 75 #[.int .i64 n, .int .i64 lo, .int .i64 hi] w fun e w' => e = .returned (.bool (inB n lo hi)) ∧ w = w' := by
  go_enter Try.func75, Try.ntmps75
  go_wp2_with fail
  all_goals (go_ret; exact ⟨by simp [inB] <;> omega, rfl⟩)
theorem coord_any (n : Int) (w : World) : Calls Try.prog 97 #[.int .i64 n] w fun e w' => e = .returned (.bool (inB n (-1073741824) 1073741824)) ∧ w = w' := by
  go_enter Try.func97, Try.ntmps97
  go_wp2_with fail
  all_goals (go_ret; exact ⟨by simp [inB] <;> omega, rfl⟩)
theorem carries_any (n : Int) (w : World) : Calls Try.prog 81 #[.int .i64 n] w fun e w' => e = .returned (.bool (carB n)) ∧ w = w' := by
  go_enter Try.func81, Try.ntmps81
  go_wp2_with fail
  all_goals (go_ret; exact ⟨by simp [carB, *], rfl⟩)
set_option maxRecDepth 100000 in
theorem eqSeg_any (a b : List Seg) (A B : Option Addr) (c c' : Nat) (w : World) (ha : a.length ≤ 9223372036854775807) (hb : b.length ≤ 9223372036854775807) (hA : RdS cSeg w w.heap.size A a) (hB : RdS cSeg w w.heap.size B b) :
    Calls Try.prog 84 #[.slice A a.length c, .slice B b.length c'] w fun e w' => e = .returned (.bool (decide (a = b))) ∧ Below w.heap.size w w' := by
  by_cases hl : a.length = b.length
  · have hne : ((a.length : Int) != (b.length : Int)) = false := by simp [hl]
    have HL := Lib.hid hl
    clear hl
    go_enter Try.func84, Try.ntmps84
    go_wp2_with fail
    go_loopw [13] (fun i wr => ∃ k q : Nat, k ≤ a.length ∧ i = .int .i64 k ∧ a.take k = b.take k ∧ wr = w.drewN q) (fun i _ => (a.length - intOf i).toNat)
    case atStart => exact ⟨0, 0, by omega, rfl, by simp, rfl⟩
    case round =>
      obtain ⟨k, q, hk, rfl, htk, rfl⟩ := hrel
      have HK := Lib.hid htk
      clear htk
      by_cases hlt : k < a.length
      · have hlb : k < b.length := by have := HL.out; omega
        obtain ⟨p, off, rfl, _, _, x0, x1, x2, x3⟩ := seg_at hA hlt
        obtain ⟨p', off', rfl, _, _, y0, y1, y2, y3⟩ := seg_at hB hlb
        have HTA := Lib.hid (show a.take (k + 1) = a.take k ++ [a[k]] from List.take_succ_eq_append_getElem hlt)
        have HTB := Lib.hid (show b.take (k + 1) = b.take k ++ [b[k]] from List.take_succ_eq_append_getElem hlb)
        have HDA := Lib.hid (show a[k]? = some a[k] from List.getElem?_eq_getElem hlt)
        have HDB := Lib.hid (show b[k]? = some b[k] from List.getElem?_eq_getElem hlb)
        clear hA hB
        generalize a[k] = x at x0 x1 x2 x3 HTA HDA
        generalize b[k] = y at y0 y1 y2 y3 HTB HDB
        obtain ⟨p0, p1, p2, p3⟩ := x
        obtain ⟨q0, q1, q2, q3⟩ := y
        have hki : (k : Int) < (a.length : Int) := by omega
        have hki2 : (k : Int) < (b.length : Int) := by omega
        go_wp2_with fail
        go_quiet (fail)
        go_wp2_with fail
        · rename_i hd
          have hf : ¬ a = b := by
            intro e
            have h1 := HDA.out
            rw [e, HDB.out] at h1
            simp [segEq, Option.some.inj h1] at hd
          go_ret
          exact ⟨by simp [hf], Below.drewN (Below.drewN (Below.refl _ _) _) _⟩
        · rename_i hd
          go_roundw
          case rel => exact ⟨k + 1, _, by omega, by go_num, by rw [HTA.out, HTB.out, HK.out]; simp [segEq] at hd; simp [hd], rfl⟩
          case measure => simp [intOf] <;> omega
      · have hf : a = b := by
          have h1 := HK.out
          have h2 := HL.out
          rwa [List.take_of_length_le (by omega), List.take_of_length_le (by omega)] at h1
        have HF := Lib.hid hf
        clear hf
        go_wp2_with fail
        go_ret
        exact ⟨by simp [HF.out], Below.drewN (Below.refl _ _) _⟩
  · have hne : ((a.length : Int) != (b.length : Int)) = true := by rw [bne_iff_ne]; omega
    have hf : ¬ a = b := fun e => hl (by rw [e])
    have HF := Lib.hid hf
    clear hl hf
    go_enter Try.func84, Try.ntmps84
    go_wp2_with fail
    go_ret
    exact ⟨by simp [HF.out], Below.refl _ _⟩
set_option maxRecDepth 100000 in
theorem rSame10_any (a b : List Seg) (A B : Option Addr) (c c' : Nat) (w : World) (ha : a.length ≤ 9223372036854775807) (hb : b.length ≤ 9223372036854775807) (hA : RdS cSeg w w.heap.size A a) (hB : RdS cSeg w w.heap.size B b) :
    Calls Try.prog 91 #[.slice A a.length c, .slice B b.length c'] w fun e w' => e = .returned (.bool (decide (a = b))) ∧ Below w.heap.size w w' := by
  by_cases hl : a.length = b.length
  · have hne : ((a.length : Int) != (b.length : Int)) = false := by simp [hl]
    have HL := Lib.hid hl
    clear hl
    go_enter Try.func91, Try.ntmps91
    go_wp2_with fail
    go_loopw [13] (fun i wr => ∃ k q : Nat, k ≤ a.length ∧ i = .int .i64 k ∧ a.take k = b.take k ∧ wr = w.drewN q) (fun i _ => (a.length - intOf i).toNat)
    case atStart => exact ⟨0, 0, by omega, rfl, by simp, rfl⟩
    case round =>
      obtain ⟨k, q, hk, rfl, htk, rfl⟩ := hrel
      have HK := Lib.hid htk
      clear htk
      by_cases hlt : k < a.length
      · have hlb : k < b.length := by have := HL.out; omega
        obtain ⟨p, off, rfl, _, _, x0, x1, x2, x3⟩ := seg_at hA hlt
        obtain ⟨p', off', rfl, _, _, y0, y1, y2, y3⟩ := seg_at hB hlb
        have HTA := Lib.hid (show a.take (k + 1) = a.take k ++ [a[k]] from List.take_succ_eq_append_getElem hlt)
        have HTB := Lib.hid (show b.take (k + 1) = b.take k ++ [b[k]] from List.take_succ_eq_append_getElem hlb)
        have HDA := Lib.hid (show a[k]? = some a[k] from List.getElem?_eq_getElem hlt)
        have HDB := Lib.hid (show b[k]? = some b[k] from List.getElem?_eq_getElem hlb)
        clear hA hB
        generalize a[k] = x at x0 x1 x2 x3 HTA HDA
        generalize b[k] = y at y0 y1 y2 y3 HTB HDB
        obtain ⟨p0, p1, p2, p3⟩ := x
        obtain ⟨q0, q1, q2, q3⟩ := y
        have hki : (k : Int) < (a.length : Int) := by omega
        have hki2 : (k : Int) < (b.length : Int) := by omega
        go_wp2_with fail
        go_quiet (fail)
        go_wp2_with fail
        · rename_i hd
          have hf : ¬ a = b := by
            intro e
            have h1 := HDA.out
            rw [e, HDB.out] at h1
            simp [segEq, Option.some.inj h1] at hd
          go_ret
          exact ⟨by simp [hf], Below.drewN (Below.drewN (Below.refl _ _) _) _⟩
        · rename_i hd
          go_roundw
          case rel => exact ⟨k + 1, _, by omega, by go_num, by rw [HTA.out, HTB.out, HK.out]; simp [segEq] at hd; simp [hd], rfl⟩
          case measure => simp [intOf] <;> omega
      · have hf : a = b := by
          have h1 := HK.out
          have h2 := HL.out
          rwa [List.take_of_length_le (by omega), List.take_of_length_le (by omega)] at h1
        have HF := Lib.hid hf
        clear hf
        go_wp2_with fail
        go_ret
        exact ⟨by simp [HF.out], Below.drewN (Below.refl _ _) _⟩
  · have hne : ((a.length : Int) != (b.length : Int)) = true := by rw [bne_iff_ne]; omega
    have hf : ¬ a = b := fun e => hl (by rw [e])
    have HF := Lib.hid hf
    clear hl hf
    go_enter Try.func91, Try.ntmps91
    go_wp2_with fail
    go_ret
    exact ⟨by simp [HF.out], Below.refl _ _⟩
set_option maxRecDepth 100000 in
theorem eqLnk_any (a b : List Lnk) (A B : Option Addr) (c c' : Nat) (w : World) (ha : a.length ≤ 9223372036854775807) (hb : b.length ≤ 9223372036854775807) (hA : RdS cLnk w w.heap.size A a) (hB : RdS cLnk w w.heap.size B b) :
    Calls Try.prog 85 #[.slice A a.length c, .slice B b.length c'] w fun e w' => e = .returned (.bool (decide (a = b))) ∧ Below w.heap.size w w' := by
  by_cases hl : a.length = b.length
  · have hne : ((a.length : Int) != (b.length : Int)) = false := by simp [hl]
    have HL := Lib.hid hl
    clear hl
    go_enter Try.func85, Try.ntmps85
    go_wp2_with fail
    go_loopw [13] (fun i wr => ∃ k q : Nat, k ≤ a.length ∧ i = .int .i64 k ∧ a.take k = b.take k ∧ wr = w.drewN q) (fun i _ => (a.length - intOf i).toNat)
    case atStart => exact ⟨0, 0, by omega, rfl, by simp, rfl⟩
    case round =>
      obtain ⟨k, q, hk, rfl, htk, rfl⟩ := hrel
      have HK := Lib.hid htk
      clear htk
      by_cases hlt : k < a.length
      · have hlb : k < b.length := by have := HL.out; omega
        obtain ⟨p, off, rfl, _, _, x0, x1⟩ := lnk_at hA hlt
        obtain ⟨p', off', rfl, _, _, y0, y1⟩ := lnk_at hB hlb
        have HTA := Lib.hid (show a.take (k + 1) = a.take k ++ [a[k]] from List.take_succ_eq_append_getElem hlt)
        have HTB := Lib.hid (show b.take (k + 1) = b.take k ++ [b[k]] from List.take_succ_eq_append_getElem hlb)
        have HDA := Lib.hid (show a[k]? = some a[k] from List.getElem?_eq_getElem hlt)
        have HDB := Lib.hid (show b[k]? = some b[k] from List.getElem?_eq_getElem hlb)
        clear hA hB
        generalize a[k] = x at x0 x1 HTA HDA
        generalize b[k] = y at y0 y1 HTB HDB
        obtain ⟨p0, p1⟩ := x
        obtain ⟨q0, q1⟩ := y
        have hki : (k : Int) < (a.length : Int) := by omega
        have hki2 : (k : Int) < (b.length : Int) := by omega
        go_wp2_with fail
        go_quiet (fail)
        go_wp2_with fail
        · rename_i hd
          have hf : ¬ a = b := by
            intro e
            have h1 := HDA.out
            rw [e, HDB.out] at h1
            simp [lnkEq, Option.some.inj h1] at hd
          go_ret
          exact ⟨by simp [hf], Below.drewN (Below.drewN (Below.refl _ _) _) _⟩
        · rename_i hd
          go_roundw
          case rel => exact ⟨k + 1, _, by omega, by go_num, by rw [HTA.out, HTB.out, HK.out]; simp [lnkEq] at hd; simp [hd], rfl⟩
          case measure => simp [intOf] <;> omega
      · have hf : a = b := by
          have h1 := HK.out
          have h2 := HL.out
          rwa [List.take_of_length_le (by omega), List.take_of_length_le (by omega)] at h1
        have HF := Lib.hid hf
        clear hf
        go_wp2_with fail
        go_ret
        exact ⟨by simp [HF.out], Below.drewN (Below.refl _ _) _⟩
  · have hne : ((a.length : Int) != (b.length : Int)) = true := by rw [bne_iff_ne]; omega
    have hf : ¬ a = b := fun e => hl (by rw [e])
    have HF := Lib.hid hf
    clear hl hf
    go_enter Try.func85, Try.ntmps85
    go_wp2_with fail
    go_ret
    exact ⟨by simp [HF.out], Below.refl _ _⟩
theorem neq_cases (a b : Int) : ((a != b) = false ∧ (b != a) = false ∧ a ≤ b ∧ b ≤ a) ∨ ((a != b) = true ∧ (b != a) = true ∧ ¬ a = b) := by
  by_cases h : a = b
  · subst h; exact .inl ⟨by simp, by simp, by omega, by omega⟩
  · exact .inr ⟨by simp [h], by simp [Ne.symm h], h⟩
theorem prof_no {l : List Seg} {k : Nat} (hk : k < l.length) (h : stepB l k = false) : profB l = false := by
  simp [profB, segsB, upB_more l l.length k hk h]
theorem prof_yes {l : List Seg} {k : Nat} (hk : ¬ k < l.length) (hk' : k ≤ l.length) (h : upB l k = true) : profB l = decide (l.length ≤ 128) := by
  obtain rfl : k = l.length := by omega
  simp [profB, segsB, h]
theorem step_0 {l : List Seg} (hk : 0 < l.length) : stepB l 0 = segB l[0] := by simp [stepB, hk]
theorem step_s {l : List Seg} {j : Nat} (hk : j + 1 < l.length) : stepB l (j + 1) = (segB l[j + 1] && l[j].2.1 == l[j + 1].1) := by
  have : j < l.length := by omega
  simp [stepB, hk, this]
set_option maxRecDepth 100000 in
set_option maxHeartbeats 2000000 in
theorem rValid10_any (a : List Seg) (A : Option Addr) (c : Nat) (w : World) (ha : a.length ≤ 9223372036854775807) (hA : RdS cSeg w w.heap.size A a) :
    Calls Try.prog 90 #[.slice A a.length c] w fun e w' => e = .returned (.bool (profB a)) ∧ Below w.heap.size w w' := by
  go_enter Try.func90, Try.ntmps90
  go_wp2_with fail
  go_loopw [7] (fun i wr => ∃ k : Nat, k ≤ a.length ∧ i = .int .i64 k ∧ upB a k = true ∧ Below w.heap.size w wr) (fun i _ => (a.length - intOf i).toNat)
  case atStart => exact ⟨0, by omega, rfl, rfl, Below.refl _ _⟩
  case round =>
    obtain ⟨k, hk, rfl, htk, hbr⟩ := hrel
    have HK := Lib.hid htk
    clear htk
    have hz := hbr.size
    by_cases hlt : k < a.length
    · rcases k with _ | j
      · obtain ⟨p, off, rfl, hp, _, x1, x2, x3, x4⟩ := seg_at (hA.below hbr) hlt
        have HS := Lib.hid (step_0 hlt)
        clear hA
        generalize a[0] = x at x1 x2 x3 x4 HS
        obtain ⟨p1, p2, p3, p4⟩ := x
        simp only [Nat.zero_mul, Nat.add_zero] at x1 x2 x3 x4
        go_wp2_with fail
        (refine wp_region_quiet_lit (by kernel_rfl) (by kernel_rfl) ?_; (repeat (any_goals (first | go_big_quiet_step (fail) | quiet_step (fail) | (refine wpQuiet_step (fun K hK => ?_); go_simp; split <;> (refine hK _ ?_; clear hK K))))); all_goals (refine wpQuiet_nil ?_; intro _ hw'; obtain ⟨nq, hw''⟩ := hw'; subst hw''))
        all_goals (go_wp2_with fail)
        all_goals first
          | (have hno : stepB a 0 = false := by (rw [HS.out]; simp [segB, inB]; omega)
             go_ret
             refine ⟨?_, ?_⟩
             · rw [prof_no hlt hno]; rfl
             · (repeat' (first | (with_reducible exact Below.refl _ _) | (with_reducible assumption) | (with_reducible refine Below.drewN ?_ _) | (with_reducible refine Below.drew ?_) | (with_reducible refine Below.alloc ?_ ?_ _) | (with_reducible refine Below.setCell ?_ ?_ _) | (with_reducible exact Nat.le_refl _) | (with_reducible exact Below.size (by assumption)) | omega | (simp only [World.size_alloc, World.size_setCell, World.size_drew, World.size_drewN]; omega) | (simp; omega))))
          | (go_roundw
             case rel => exact ⟨1, by omega, rfl, by rw [upB_succ, HK.out, HS.out]; simp [segB, inB]; omega, by (repeat' (first | (with_reducible exact Below.refl _ _) | (with_reducible assumption) | (with_reducible refine Below.drewN ?_ _) | (with_reducible refine Below.drew ?_) | (with_reducible refine Below.alloc ?_ ?_ _) | (with_reducible refine Below.setCell ?_ ?_ _) | (with_reducible exact Nat.le_refl _) | (with_reducible exact Below.size (by assumption)) | omega | (simp only [World.size_alloc, World.size_setCell, World.size_drew, World.size_drewN]; omega) | (simp; omega)))⟩
             case measure => simp [intOf] <;> omega)
      · obtain ⟨p, off, rfl, hp, _, x1, x2, x3, x4⟩ := seg_at (hA.below hbr) hlt
        have hlj : j < a.length := by omega
        obtain ⟨_, _, e, _, _, _, y2, _, _⟩ := seg_at (hA.below hbr) hlj
        cases e
        have HS := Lib.hid (step_s hlt)
        clear hA
        generalize a[j + 1] = x at x1 x2 x3 x4 HS
        generalize a[j] = y at y2 HS
        obtain ⟨p1, p2, p3, p4⟩ := x
        obtain ⟨q1, q2, q3, q4⟩ := y
        have hjl : (j : Int) < (a.length : Int) := by omega
        have hp2 : p < wr.heap.size := by omega
        rcases neq_cases q2 p1 with ⟨hq1, hq2, hq3, hq4⟩ | ⟨hq1, hq2, hq⟩
        all_goals
          go_wp2_with fail
          (refine wp_region_quiet_lit (by kernel_rfl) (by kernel_rfl) ?_; (repeat (any_goals (first | go_big_quiet_step (fail) | quiet_step (fail) | (refine wpQuiet_step (fun K hK => ?_); go_simp; split <;> (refine hK _ ?_; clear hK K))))); all_goals (refine wpQuiet_nil ?_; intro _ hw'; obtain ⟨nq, hw''⟩ := hw'; subst hw''))
          all_goals (go_wp2_with fail)
          all_goals first
            | (have hno : stepB a (j + 1) = false := by (rw [HS.out]; simp [segB, inB]; omega)
               go_ret
               refine ⟨?_, ?_⟩
               · rw [prof_no hlt hno]; rfl
               · (repeat' (first | (with_reducible exact Below.refl _ _) | (with_reducible assumption) | (with_reducible refine Below.drewN ?_ _) | (with_reducible refine Below.drew ?_) | (with_reducible refine Below.alloc ?_ ?_ _) | (with_reducible refine Below.setCell ?_ ?_ _) | (with_reducible exact Nat.le_refl _) | (with_reducible exact Below.size (by assumption)) | omega | (simp only [World.size_alloc, World.size_setCell, World.size_drew, World.size_drewN]; omega) | (simp; omega))))
            | (go_roundw
               case rel => exact ⟨j + 1 + 1, by omega, by go_num, by rw [upB_succ, HK.out, HS.out]; simp [segB, inB]; omega, by (repeat' (first | (with_reducible exact Below.refl _ _) | (with_reducible assumption) | (with_reducible refine Below.drewN ?_ _) | (with_reducible refine Below.drew ?_) | (with_reducible refine Below.alloc ?_ ?_ _) | (with_reducible refine Below.setCell ?_ ?_ _) | (with_reducible exact Nat.le_refl _) | (with_reducible exact Below.size (by assumption)) | omega | (simp only [World.size_alloc, World.size_setCell, World.size_drew, World.size_drewN]; omega) | (simp; omega)))⟩
               case measure => simp [intOf] <;> omega)
    · have HP := Lib.hid (prof_yes hlt hk HK.out)
      go_wp2_with fail
      go_ret
      exact ⟨by rw [HP.out]; simp; omega, hbr⟩
set_option maxRecDepth 100000 in
set_option maxHeartbeats 2000000 in
theorem valid10_any (a : List Seg) (A : Option Addr) (c : Nat) (w : World) (ha : a.length ≤ 9223372036854775807) (hA : RdS cSeg w w.heap.size A a) :
    Calls Try.prog 89 #[.slice A a.length c] w fun e w' => e = .returned (.bool (profB a)) ∧ Below w.heap.size w w' := by
  by_cases h128 : a.length ≤ 128
  · go_enter Try.func89, Try.ntmps89
    go_wp2_with fail
    go_loopw [10] (fun i wr => ∃ k : Nat, k ≤ a.length ∧ i = .int .i64 k ∧ upB a k = true ∧ Below w.heap.size w wr) (fun i _ => (a.length - intOf i).toNat)
    case atStart => exact ⟨0, by omega, rfl, rfl, Below.refl _ _⟩
    case round =>
      obtain ⟨k, hk, rfl, htk, hbr⟩ := hrel
      have HK := Lib.hid htk
      clear htk
      have hz := hbr.size
      by_cases hlt : k < a.length
      · rcases k with _ | j
        · obtain ⟨p, off, rfl, hp, _, x1, x2, x3, x4⟩ := seg_at (hA.below hbr) hlt
          have HS := Lib.hid (step_0 hlt)
          clear hA
          generalize a[0] = x at x1 x2 x3 x4 HS
          obtain ⟨p1, p2, p3, p4⟩ := x
          simp only [Nat.zero_mul, Nat.add_zero] at x1 x2 x3 x4
          go_wp2_with (go_at_call 97; refine (coord_any _ _).mono ?_; rintro e w' ⟨rfl, rfl⟩)
          all_goals try ((refine wp_region_quiet_lit (by kernel_rfl) (by kernel_rfl) ?_; (repeat (any_goals (first | go_big_quiet_step (fail) | quiet_step (fail) | (refine wpQuiet_step (fun K hK => ?_); go_simp; split <;> (refine hK _ ?_; clear hK K))))); all_goals (refine wpQuiet_nil ?_; intro _ hw'; obtain ⟨nq, hw''⟩ := hw'; subst hw'')); go_wp2_with fail)
          all_goals first
            | (have hno : stepB a 0 = false := by (rw [HS.out]; simp [segB, *] <;> simp [inB] <;> omega)
               go_ret
               refine ⟨?_, ?_⟩
               · rw [prof_no hlt hno]; rfl
               · (repeat' (first | (with_reducible exact Below.refl _ _) | (with_reducible assumption) | (with_reducible refine Below.drewN ?_ _) | (with_reducible refine Below.drew ?_) | (with_reducible refine Below.alloc ?_ ?_ _) | (with_reducible refine Below.setCell ?_ ?_ _) | (with_reducible exact Nat.le_refl _) | (with_reducible exact Below.size (by assumption)) | omega | (simp only [World.size_alloc, World.size_setCell, World.size_drew, World.size_drewN]; omega) | (simp; omega))))
            | (go_roundw
               case rel => exact ⟨1, by omega, rfl, by rw [upB_succ, HK.out, HS.out]; simp [segB, *] <;> simp [inB] <;> omega, by (repeat' (first | (with_reducible exact Below.refl _ _) | (with_reducible assumption) | (with_reducible refine Below.drewN ?_ _) | (with_reducible refine Below.drew ?_) | (with_reducible refine Below.alloc ?_ ?_ _) | (with_reducible refine Below.setCell ?_ ?_ _) | (with_reducible exact Nat.le_refl _) | (with_reducible exact Below.size (by assumption)) | omega | (simp only [World.size_alloc, World.size_setCell, World.size_drew, World.size_drewN]; omega) | (simp; omega)))⟩
               case measure => simp [intOf] <;> omega)
        · obtain ⟨p, off, rfl, hp, _, x1, x2, x3, x4⟩ := seg_at (hA.below hbr) hlt
          have hlj : j < a.length := by omega
          obtain ⟨_, _, e, _, _, _, y2, _, _⟩ := seg_at (hA.below hbr) hlj
          cases e
          have HS := Lib.hid (step_s hlt)
          clear hA
          generalize a[j + 1] = x at x1 x2 x3 x4 HS
          generalize a[j] = y at y2 HS
          obtain ⟨p1, p2, p3, p4⟩ := x
          obtain ⟨q1, q2, q3, q4⟩ := y
          have hjl : (j : Int) < (a.length : Int) := by omega
          have hp2 : p < wr.heap.size := by omega
          rcases neq_cases q2 p1 with ⟨hq1, hq2, hq3, hq4⟩ | ⟨hq1, hq2, hq⟩
          all_goals
            go_wp2_with (go_at_call 97; refine (coord_any _ _).mono ?_; rintro e w' ⟨rfl, rfl⟩)
            all_goals try ((refine wp_region_quiet_lit (by kernel_rfl) (by kernel_rfl) ?_; (repeat (any_goals (first | go_big_quiet_step (fail) | quiet_step (fail) | (refine wpQuiet_step (fun K hK => ?_); go_simp; split <;> (refine hK _ ?_; clear hK K))))); all_goals (refine wpQuiet_nil ?_; intro _ hw'; obtain ⟨nq, hw''⟩ := hw'; subst hw'')); go_wp2_with fail)
            all_goals first
              | (have hno : stepB a (j + 1) = false := by (rw [HS.out]; simp [segB, *] <;> simp [inB] <;> omega)
                 go_ret
                 refine ⟨?_, ?_⟩
                 · rw [prof_no hlt hno]; rfl
                 · (repeat' (first | (with_reducible exact Below.refl _ _) | (with_reducible assumption) | (with_reducible refine Below.drewN ?_ _) | (with_reducible refine Below.drew ?_) | (with_reducible refine Below.alloc ?_ ?_ _) | (with_reducible refine Below.setCell ?_ ?_ _) | (with_reducible exact Nat.le_refl _) | (with_reducible exact Below.size (by assumption)) | omega | (simp only [World.size_alloc, World.size_setCell, World.size_drew, World.size_drewN]; omega) | (simp; omega))))
              | (go_roundw
                 case rel => exact ⟨j + 1 + 1, by omega, by go_num, by rw [upB_succ, HK.out, HS.out]; simp [segB, *] <;> simp [inB] <;> omega, by (repeat' (first | (with_reducible exact Below.refl _ _) | (with_reducible assumption) | (with_reducible refine Below.drewN ?_ _) | (with_reducible refine Below.drew ?_) | (with_reducible refine Below.alloc ?_ ?_ _) | (with_reducible refine Below.setCell ?_ ?_ _) | (with_reducible exact Nat.le_refl _) | (with_reducible exact Below.size (by assumption)) | omega | (simp only [World.size_alloc, World.size_setCell, World.size_drew, World.size_drewN]; omega) | (simp; omega)))⟩
                 case measure => simp [intOf] <;> omega)
      · have HP := Lib.hid (prof_yes hlt hk HK.out)
        go_wp2_with fail
        go_ret
        exact ⟨by rw [HP.out]; simp [h128], hbr⟩
  · have hf : profB a = false := by simp [profB, h128]
    have HF := Lib.hid hf
    clear hf
    go_enter Try.func89, Try.ntmps89
    go_wp2_with fail
    go_ret
    exact ⟨by rw [HF.out]; rfl, Below.refl _ _⟩
end Go.Proofs.Ytlpkkcodmoklaaa
