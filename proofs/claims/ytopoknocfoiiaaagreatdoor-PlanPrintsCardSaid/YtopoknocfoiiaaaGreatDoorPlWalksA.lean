/- The walks of the small functions on layouts. -/
import Derived.Test.YtopoknocfoiiaaaGreatDoorPlCod
import Derived.Deep.QuietTactic
import Derived.BigQuiet
namespace Go.Proofs.YtopoknocfoiiaaaGreatDoor
set_option linter.unusedVariables false
set_option linter.unusedSimpArgs false
open Go.RowKit
attribute [local go_sem] bs_size bs_get bs_append bs_extract bs_toList
attribute [-go_sem] run_equalIn_agg
theorem within_any (n lo hi : Int) (w : World) : Calls Tryz.prog 53 #[.int .i64 n, .int .i64 lo, .int .i64 hi] w fun e w' => e = .returned (.bool (inB n lo hi)) ∧ w = w' := by
  go_enter Tryz.func53, Tryz.ntmps53
  go_wp2
  all_goals (go_ret; refine ⟨ret_b ?_, rfl⟩; unfold inB; rw [Bool.eq_iff_iff]; simp only [Bool.and_eq_true, decide_eq_true_eq, Bool.false_eq_true, true_iff, false_iff]; omega)
theorem withinC {n lo hi : Int} {b : Bool} (h : inB n lo hi = b) (w : World) : Calls Tryz.prog 53 #[.int .i64 n, .int .i64 lo, .int .i64 hi] w fun e w' => e = .returned (.bool b) ∧ w' = w := (within_any n lo hi w).mono fun _ _ ⟨h1, h2⟩ => ⟨h ▸ h1, h2.symm⟩
theorem sides_any (k : Int) (w : World) (E : EnvS w) : Calls Tryz.prog 76 #[.int .i64 k] w fun e w' => e = .returned (.int .i64 (sidesF k)) ∧ w = w' := by
  have hg : Tryz.prog.globalNamed "signalling/rail.sides" = some 0 := by kernel_rfl
  have s0 : w.cell? ⟨0, 0, none⟩ = some (.int .i64 0) := E.sides.cell hg 0 (by decide)
  have s1 : w.cell? ⟨0, 1, none⟩ = some (.int .i64 2) := E.sides.cell hg 1 (by decide)
  have s2 : w.cell? ⟨0, 2, none⟩ = some (.int .i64 3) := E.sides.cell hg 2 (by decide)
  have s3 : w.cell? ⟨0, 3, none⟩ = some (.int .i64 4) := E.sides.cell hg 3 (by decide)
  by_cases h0 : k < 0
  · have HS : Hid (sidesF k = 0) := Lib.hid (by unfold sidesF; rw [if_neg (by omega), if_neg (by omega), if_neg (by omega)])
    go_enter Tryz.func76, Tryz.ntmps76
    go_wp2
    go_ret
    exact ⟨ret_iL HS.out.symm, rfl⟩
  · by_cases h4 : 4 ≤ k
    · have HS : Hid (sidesF k = 0) := Lib.hid (by unfold sidesF; rw [if_neg (by omega), if_neg (by omega), if_neg (by omega)])
      go_enter Tryz.func76, Tryz.ntmps76
      go_wp2
      go_ret
      exact ⟨ret_iL HS.out.symm, rfl⟩
    · have : k = 0 ∨ k = 1 ∨ k = 2 ∨ k = 3 := by omega
      rcases this with rfl | rfl | rfl | rfl
      all_goals (
        clear h0 h4
        go_enter Tryz.func76, Tryz.ntmps76
        go_wp2
        go_ret
        exact ⟨rfl, rfl⟩)
set_option maxHeartbeats 2000000 in
theorem index_any (l : List (List UInt8)) (A : Option Addr) (cap : Nat) (x : List UInt8) (w : World) (hr : RdS cS w (Lt w) A l) (hl : l.length ≤ maxLen) :
    Calls Tryz.prog 50 #[.slice A l.length cap, .string (bs x)] w fun e w' => e = .returned (.int .i64 (idxA l x)) ∧ w = w' := by
  unfold maxLen at hl
  go_enter Tryz.func50, Tryz.ntmps50
  go_wp2
  go_loop [8] (fun i => ∃ k : Nat, k ≤ l.length ∧ i = .int .i64 k ∧ Hid (x ∉ l.take k)) (fun i => l.length - (intOf i).toNat)
  case atStart => exact ⟨0, Nat.zero_le _, rfl, Lib.hid (by simp)⟩
  case round =>
    obtain ⟨k, hk, rfl, HK⟩ := hrel
    by_cases hlt : k < l.length
    · have hki : (k : Int) < (l.length : Int) := by omega
      obtain ⟨b, off, rfl, lb, ho, y0⟩ := hr.elS hlt
      by_cases hx : l[k] = x
      · have HE : Hid (idxA l x = (k : Int)) := Lib.hid (idxA_at (by rw [List.getElem?_eq_getElem hlt, hx]) HK.out)
        have hxb : (x == l[k]) = true := by simp [hx]
        clear hx hr ho
        generalize l[k] = q at *
        go_wp2_with fail
        go_ret
        exact ⟨ret_iL HE.out.symm, rfl⟩
      · have HN : Hid (x ∉ l.take (k + 1)) := Lib.hid (by
          rw [List.take_succ_eq_append_getElem hlt]
          intro hm
          rcases List.mem_append.1 hm with hm | hm
          · exact HK.out hm
          · exact hx (List.mem_singleton.1 hm).symm)
        have hxb : (x == l[k]) = false := by rw [beq_eq_false_iff_ne]; exact fun e => hx e.symm
        clear hx hr ho
        generalize l[k] = q at *
        go_wp2_with fail
        go_round
        case rel => exact ⟨k + 1, by omega, by go_num, HN⟩
        case measure => simp [intOf]; omega
    · have HE : Hid (idxA l x = -1) := Lib.hid (by
        have h1 := HK.out
        rw [List.take_of_length_le (by omega)] at h1
        exact idxA_no h1)
      go_wp2_with fail
      go_ret
      exact ⟨ret_iL HE.out.symm, rfl⟩
theorem take_no {α : Type} {l : List α} {k : Nat} {x : α} (hlt : k < l.length) (h : x ∉ l.take k) (hx : ¬ l[k] = x) : x ∉ l.take (k + 1) := by
  rw [List.take_succ_eq_append_getElem hlt]
  intro hm
  rcases List.mem_append.1 hm with hm | hm
  · exact h hm
  · exact hx (List.mem_singleton.1 hm).symm
theorem take_end {α : Type} [DecidableEq α] {l : List α} {k : Nat} {x : α} (hlt : ¬ k < l.length) (h : x ∉ l.take k) : idxA l x = -1 := by
  rw [List.take_of_length_le (by omega)] at h
  exact idxA_no h
set_option maxHeartbeats 4000000 in
theorem element_any (v : LV) (x : List UInt8) (w : World) (hr : LvR w v) : Calls Tryz.prog 51 #[lvA v, .string (bs x)] w fun e w' => e = .returned (.int .i64 (idxA (v.l.els.map Elt.name) x)) ∧ Below w.heap.size w w' := by
  have hbx := Bx.new hr
  have hn := hr.n2.1
  unfold maxLen at hn
  unfold lvA
  go_enter Tryz.func51, Tryz.ntmps51
  go_wp2_with fail
  go_loopw [10] (fun i wr => ∃ k : Nat, k ≤ v.l.els.length ∧ i = .int .i64 k ∧ Bx w wr v ∧ Hid (x ∉ (v.l.els.map Elt.name).take k)) (fun i _ => v.l.els.length - (intOf i).toNat)
  case atStart => exact ⟨0, Nat.zero_le _, rfl, hbx, Lib.hid (by simp)⟩
  case round =>
    obtain ⟨k, hk, rfl, hb, HK⟩ := hrel
    clear hbx
    by_cases hlt : k < v.l.els.length
    · have hki : (k : Int) < (v.l.els.length : Int) := by omega
      have hlm : k < (v.l.els.map Elt.name).length := by simpa using hlt
      obtain ⟨b, off, hA, lb, ho, y0, y1, y2, y3, y4, y5, y6⟩ := hb.rd.r2.elE hlt
      have hba := hb.alloc (.cells #[.string (bs v.l.els[k].name), .int .i64 v.l.els[k].kind, .int .i64 v.l.els[k].len, .int .i64 v.l.els[k].grd, .int .i64 v.l.els[k].spd, .int .i64 v.l.els[k].slow, .int .i64 v.l.els[k].sec] 35)
      rw [hA]
      by_cases hx : v.l.els[k].name = x
      · have HE : Hid (idxA (v.l.els.map Elt.name) x = (k : Int)) := Lib.hid (idxA_at (by rw [List.getElem?_eq_getElem hlm]; simp [hx]) HK.out)
        have hxb : (v.l.els[k].name == x) = true := by simp [hx]
        clear hx hA ho
        generalize v.l.els[k] = q at *
        go_wp2_with fail
        go_ret
        exact ⟨ret_iL HE.out.symm, hba.bel⟩
      · have HN := Lib.hid (take_no (x := x) hlm HK.out (by simpa using hx))
        have hxb : (v.l.els[k].name == x) = false := by rw [beq_eq_false_iff_ne]; exact hx
        clear hx hA ho
        generalize v.l.els[k] = q at *
        go_wp2_with fail
        go_roundw
        case rel => exact ⟨k + 1, by omega, by go_num, hba, HN⟩
        case measure => simp [intOf]; omega
    · have HE := Lib.hid (take_end (x := x) (l := v.l.els.map Elt.name) (by simpa using hlt) HK.out)
      go_wp2_with fail
      go_ret
      exact ⟨ret_iL HE.out.symm, hb.bel⟩
set_option maxHeartbeats 4000000 in
theorem signal_any (v : LV) (x : End2) (w : World) (hr : LvR w v) : Calls Tryz.prog 57 #[lvA v, .agg #[.int .i64 x.el, .int .i64 x.sd]] w fun e w' => e = .returned (.int .i64 (idxA (v.l.sgs.map Sgn.pos) x)) ∧ Below w.heap.size w w' := by
  have hbx := (Bx.new hr).alloc (.cells #[.int .i64 x.el, .int .i64 x.sd] 37)
  have hx1 : Blk ((w.alloc (.cells #[.string (bs v.l.name), .slice v.A1 v.l.secs.length v.c1, .slice v.A2 v.l.els.length v.c2, .slice v.A3 v.l.jts.length v.c3, .slice v.A4 v.l.sgs.length v.c4, .slice v.A5 v.l.bls.length v.c5] 28)).alloc (.cells #[.int .i64 x.el, .int .i64 x.sd] 37)) (w.heap.size + 1) 37 #[.int .i64 x.el, .int .i64 x.sd] := Blk.new _ _ _ _ (by simp)
  have hn := hr.n4.1
  have HQ := Lib.hid fun W (y : End2) => eq_end W 9998 y x
  unfold maxLen at hn
  unfold lvA
  go_enter Tryz.func57, Tryz.ntmps57
  go_wp2_with fail
  go_loopw [10] (fun i wr => ∃ k : Nat, k ≤ v.l.sgs.length ∧ i = .int .i64 k ∧ Bx w wr v ∧ Blk wr (w.heap.size + 1) 37 #[.int .i64 x.el, .int .i64 x.sd] ∧ Hid (x ∉ (v.l.sgs.map Sgn.pos).take k)) (fun i _ => v.l.sgs.length - (intOf i).toNat)
  case atStart => exact ⟨0, Nat.zero_le _, rfl, hbx, hx1, Lib.hid (by simp)⟩
  case round =>
    obtain ⟨k, hk, rfl, hb, hxb, HK⟩ := hrel
    clear hbx hx1
    have hsz := hxb.lt
    by_cases hlt : k < v.l.sgs.length
    · have hki : (k : Int) < (v.l.sgs.length : Int) := by omega
      have hlm : k < (v.l.sgs.map Sgn.pos).length := by simpa using hlt
      obtain ⟨b, off, hA, lb, ho, y0, y1, y2, y3⟩ := hb.rd.r4.elG hlt
      have hba := hb.alloc (.cells #[.string (bs v.l.sgs[k].name), .int .i64 v.l.sgs[k].pos.el, .int .i64 v.l.sgs[k].pos.sd, .int .i64 v.l.sgs[k].ovl] 41)
      have hxa := hxb.alloc (.cells #[.string (bs v.l.sgs[k].name), .int .i64 v.l.sgs[k].pos.el, .int .i64 v.l.sgs[k].pos.sd, .int .i64 v.l.sgs[k].ovl] 41)
      have z0 : (wr.alloc (.cells #[.string (bs v.l.sgs[k].name), .int .i64 v.l.sgs[k].pos.el, .int .i64 v.l.sgs[k].pos.sd, .int .i64 v.l.sgs[k].ovl] 41)).cell? ⟨w.heap.size + 1, 0, none⟩ = some (.int .i64 x.el) := hxa.cell 0
      have z1 : (wr.alloc (.cells #[.string (bs v.l.sgs[k].name), .int .i64 v.l.sgs[k].pos.el, .int .i64 v.l.sgs[k].pos.sd, .int .i64 v.l.sgs[k].ovl] 41)).cell? ⟨w.heap.size + 1, 1, none⟩ = some (.int .i64 x.sd) := hxa.cell 1
      rw [hA]
      have hq := fun W => HQ.out W v.l.sgs[k].pos
      cases hd : decide (v.l.sgs[k].pos = x) with
      | true =>
        have hx : v.l.sgs[k].pos = x := of_decide_eq_true hd
        have HE : Hid (idxA (v.l.sgs.map Sgn.pos) x = (k : Int)) := Lib.hid (idxA_at (by rw [List.getElem?_eq_getElem hlm]; simp [hx]) HK.out)
        rw [hd] at hq
        clear hx hd hA ho
        generalize v.l.sgs[k] = q at *
        go_wp2_with fail
        go_ret
        exact ⟨ret_iL HE.out.symm, hba.bel⟩
      | false =>
        have hx : ¬ v.l.sgs[k].pos = x := of_decide_eq_false hd
        have HN := Lib.hid (take_no (x := x) hlm HK.out (by simpa using hx))
        rw [hd] at hq
        clear hx hd hA ho
        generalize v.l.sgs[k] = q at *
        go_wp2_with fail
        go_roundw
        case rel => exact ⟨k + 1, by omega, by go_num, hba, hxa, HN⟩
        case measure => simp [intOf]; omega
    · have HE := Lib.hid (take_end (x := x) (l := v.l.sgs.map Sgn.pos) (by simpa using hlt) HK.out)
      go_wp2_with fail
      go_ret
      exact ⟨ret_iL HE.out.symm, hb.bel⟩
theorem secAt_in {l : Lay} {i : Nat} (h : i < l.els.length) : secAt l i = l.els[i].sec := by
  unfold secAt
  rw [if_pos (by omega), Int.toNat_natCast, List.getElem?_eq_getElem h]
  rfl
theorem secAt_out {l : Lay} {i : Int} (h : i < 0 ∨ (l.els.length : Int) ≤ i) : secAt l i = -1 := by
  unfold secAt
  split
  · rw [List.getElem?_eq_none (by omega)]; rfl
  · rfl
set_option maxHeartbeats 2000000 in
theorem section_any (v : LV) (i : Int) (w : World) (hr : LvR w v) : Calls Tryz.prog 58 #[lvA v, .int .i64 i] w fun e w' => e = .returned (.int .i64 (secAt v.l i)) ∧ Below w.heap.size w w' := by
  have hbx := Bx.new hr
  have hn := hr.n2.1
  unfold maxLen at hn
  by_cases h0 : i < 0
  · have HS := Lib.hid (secAt_out (l := v.l) (Or.inl h0))
    unfold lvA
    go_enter Tryz.func58, Tryz.ntmps58
    go_wp2_with fail
    go_ret
    exact ⟨ret_iL HS.out.symm, hbx.bel⟩
  · obtain ⟨k, rfl⟩ := Int.eq_ofNat_of_zero_le (show 0 ≤ i by omega)
    by_cases hlt : k < v.l.els.length
    · have HS := Lib.hid (secAt_in hlt)
      have hki : (k : Int) < (v.l.els.length : Int) := by omega
      obtain ⟨b, off, hA, lb, ho, y0, y1, y2, y3, y4, y5, y6⟩ := hbx.rd.r2.elE hlt
      unfold lvA
      rw [hA]
      rw [hA] at hbx y6
      clear y0 y1 y2 y3 y4 y5
      go_enter Tryz.func58, Tryz.ntmps58
      go_wp2_with fail
      go_ret
      exact ⟨ret_iL HS.out.symm, hbx.bel⟩
    · have HS := Lib.hid (secAt_out (l := v.l) (i := (k : Int)) (Or.inr (by omega)))
      have hge : (v.l.els.length : Int) ≤ (k : Int) := by omega
      unfold lvA
      go_enter Tryz.func58, Tryz.ntmps58
      go_wp2_with fail
      go_ret
      exact ⟨ret_iL HS.out.symm, hbx.bel⟩
end Go.Proofs.YtopoknocfoiiaaaGreatDoor
