/- The walks of sectionsUsed, elementsFit, checkBalises. -/
import Derived.Test.YtopoknocfoiiaaaGreatDoorPlWalksB
namespace Go.Proofs.YtopoknocfoiiaaaGreatDoor
set_option linter.unusedVariables false
set_option linter.unusedSimpArgs false
open Go.RowKit
open Go.Maps (Keyed)
attribute [local go_sem] bs_size bs_get bs_append bs_extract bs_toList
attribute [-go_sem] run_equalIn_agg
theorem useB_iff {l : Lay} : useB l = true ↔ ∀ i, i < l.secs.length → usedB l i = true := by
  unfold useB
  rw [List.all_eq_true]
  exact ⟨fun h i hi => h i (List.mem_range.2 hi), fun h i hi => h i (List.mem_range.1 hi)⟩
theorem useB_no {l : Lay} {i : Nat} (hi : i < l.secs.length) (h : usedB l i = false) : useB l = false := by
  rw [Bool.eq_false_iff]
  intro hu
  rw [useB_iff.1 hu i hi] at h
  cases h
theorem len_beq (n : Nat) : ((n : Int) == 0) = decide (n = 0) := by
  rw [Bool.eq_iff_iff]; simp
set_option maxRecDepth 100000 in
set_option maxHeartbeats 4000000 in
theorem sectionsUsed_any (v : LV) (hm : v.l.els.length ≤ 1000) (w : World) (hr : LvR w v) : Calls Tryz.prog 28 #[lvA v] w fun e w' => e = .returned (.bool (useB v.l)) ∧ Below w.heap.size w w' := by
  have hbx := Bx.new hr
  have h1 := hr.n1.1
  unfold maxLen at h1
  have HM := Lib.hid fun (i : Nat) (hi : i < v.l.secs.length) W (h : LvR W v) => members_any v i hi hm W h
  have HU := Lib.hid fun (i : Nat) => (len_beq (membF v.l i v.l.els.length).length).trans (membF_used v.l i)
  unfold lvA at HM ⊢
  go_enter Tryz.func28, Tryz.ntmps28
  go_wp2_with fail
  go_loopw [7] (fun n wr => ∃ k : Nat, k ≤ v.l.secs.length ∧ n = .int .i64 k ∧ Bx w wr v ∧ Hid (∀ i, i < k → usedB v.l i = true)) (fun n _ => v.l.secs.length - (intOf n).toNat)
  case atStart => exact ⟨0, Nat.zero_le _, rfl, hbx, Lib.hid (fun i h => absurd h (by omega))⟩
  case round =>
    obtain ⟨k, hk, rfl, hb, HK⟩ := hrel
    clear hbx
    by_cases hlt : k < v.l.secs.length
    · have hki : (k : Int) < (v.l.secs.length : Int) := by omega
      have y0 := hb.x0
      have y1 := hb.x1
      have y2 := hb.x2
      have y3 := hb.x3
      have y4 := hb.x4
      have y5 := hb.x5
      have hmk := HM.out k hlt wr hb.rd
      have huk := HU.out k
      cases hu : usedB v.l k with
      | false =>
        have HX := Lib.hid (useB_no hlt hu)
        rw [hu] at huk
        clear hu
        generalize (membF v.l (k : Int) v.l.els.length).length = n at *
        go_wp2_with fail
        refine hmk.mono ?_
        rintro e w2 ⟨A2, c2, rfl, hb2⟩
        go_wp2_with fail
        go_ret
        exact ⟨ret_b HX.out.symm, (hb.now hb2).bel⟩
      | true =>
        have HN : Hid (∀ i, i < k + 1 → usedB v.l i = true) := Lib.hid (fun i hi => by
          by_cases e : i = k
          · rw [e]; exact hu
          · exact HK.out i (by omega))
        rw [hu] at huk
        clear hu
        generalize (membF v.l (k : Int) v.l.els.length).length = n at *
        go_wp2_with fail
        refine hmk.mono ?_
        rintro e w2 ⟨A2, c2, rfl, hb2⟩
        have hbn := hb.now hb2
        clear y0 y1 y2 y3 y4 y5
        go_wp2_with fail
        go_roundw
        case rel => exact ⟨k + 1, by omega, by go_num, hbn, HN⟩
        case measure => simp [intOf]; omega
    · have HX := Lib.hid (useB_iff.2 (fun i hi => HK.out i (by omega)))
      go_wp2_with fail
      go_ret
      exact ⟨ret_b HX.out.symm, hb.bel⟩
/-! ### The elements -/
theorem all_no {α : Type} {p : α → Bool} {l : List α} {k : Nat} (h : k < l.length) (hp : p l[k] = false) : l.all p = false := by
  rw [Bool.eq_false_iff]
  intro h2
  rw [List.all_eq_true.1 h2 l[k] (List.getElem_mem h)] at hp
  cases hp
theorem all_take {α : Type} {p : α → Bool} {l : List α} {k : Nat} (h : k < l.length) (ha : (l.take k).all p = true) (hp : p l[k] = true) : (l.take (k + 1)).all p = true := by
  rw [List.take_succ_eq_append_getElem h, List.all_append, ha]
  simp [hp]
theorem all_end {α : Type} {p : α → Bool} {l : List α} {k : Nat} (h : ¬ k < l.length) (ha : (l.take k).all p = true) : l.all p = true := by
  rwa [List.take_of_length_le (by omega)] at ha
theorem eltB_eq (l : Lay) (e : Elt) : eltB l e = (inB e.kind 1 3 && (inB e.len 500 1000000 && (inB e.grd (-50) 50 && (inB e.spd 100 10000 && (inB e.sec 0 ((l.secs.length : Int) - 1) && (if e.kind = 2 then inB e.slow 100 e.spd else decide (e.slow = 0))))))) := rfl
set_option maxRecDepth 100000 in
set_option maxHeartbeats 8000000 in
theorem elementsFit_any (v : LV) (w : World) (hr : LvR w v) : Calls Tryz.prog 27 #[lvA v] w fun e w' => e = .returned (.bool (v.l.els.all (eltB v.l))) ∧ Below w.heap.size w w' := by
  have hbx := Bx.new hr
  have h1 := hr.n1.1
  have h2 := hr.n2.1
  unfold maxLen at h1 h2
  unfold lvA
  go_enter Tryz.func27, Tryz.ntmps27
  go_wp2_with fail
  go_loopw [8] (fun n wr => ∃ k : Nat, k ≤ v.l.els.length ∧ n = .int .i64 k ∧ Bx w wr v ∧ Hid ((v.l.els.take k).all (eltB v.l) = true)) (fun n _ => v.l.els.length - (intOf n).toNat)
  case atStart => exact ⟨0, Nat.zero_le _, rfl, hbx, Lib.hid (by simp)⟩
  case round =>
    obtain ⟨k, hk, rfl, hb, HK⟩ := hrel
    clear hbx
    by_cases hlt : k < v.l.els.length
    · have hki : (k : Int) < (v.l.els.length : Int) := by omega
      obtain ⟨b, off, hA, lb, ho, y0, y1, y2, y3, y4, y5, y6⟩ := hb.rd.r2.elE hlt
      have hba := hb.alloc (.cells #[.string (bs v.l.els[k].name), .int .i64 v.l.els[k].kind, .int .i64 v.l.els[k].len, .int .i64 v.l.els[k].grd, .int .i64 v.l.els[k].spd, .int .i64 v.l.els[k].slow, .int .i64 v.l.els[k].sec] 35)
      have x1 : (wr.alloc (.cells #[.string (bs v.l.els[k].name), .int .i64 v.l.els[k].kind, .int .i64 v.l.els[k].len, .int .i64 v.l.els[k].grd, .int .i64 v.l.els[k].spd, .int .i64 v.l.els[k].slow, .int .i64 v.l.els[k].sec] 35)).cell? ⟨w.heap.size, 1, none⟩ = some (.slice v.A1 v.l.secs.length v.c1) := hba.x1
      have HE := Lib.hid (eltB_eq v.l v.l.els[k])
      have HNO := Lib.hid fun h : eltB v.l v.l.els[k] = false => all_no (p := eltB v.l) hlt h
      have HYE := Lib.hid fun h : eltB v.l v.l.els[k] = true => all_take (p := eltB v.l) hlt HK.out h
      rw [hA]
      clear hA ho HK
      generalize eltB v.l v.l.els[k] = bb at *
      generalize v.l.els[k] = q at *
      by_cases h2k : q.kind = 2
      · have h2b : (q.kind == 2) = true := by simp [h2k]
        have h2n : (q.kind != 2) = false := by simp [h2k]
        have HE2 : Hid (bb = (inB q.kind 1 3 && (inB q.len 500 1000000 && (inB q.grd (-50) 50 && (inB q.spd 100 10000 && (inB q.sec 0 ((v.l.secs.length : Int) - 1) && inB q.slow 100 q.spd)))))) := Lib.hid (by rw [HE.out, if_pos h2k])
        clear h2k HE
        go_wp2_with (go_at_call 53; refine (within_any _ _ _ _).mono ?_; rintro e w' ⟨rfl, rfl⟩)
        all_goals first
          | (go_ret
             refine ⟨ret_b ?_, hba.bel⟩
             rw [HNO.out (by rw [HE2.out]; clear HE2 HNO HYE; simp_all; done)])
          | (go_roundw
             case rel => exact ⟨k + 1, by omega, by go_num, hba, Lib.hid (HYE.out (by rw [HE2.out]; clear HE2 HNO HYE; simp_all; done))⟩
             case measure => simp [intOf]; omega)
      · have h2b : (q.kind == 2) = false := by simp [h2k]
        have h2n : (q.kind != 2) = true := by simp [h2k]
        have HE2 : Hid (bb = (inB q.kind 1 3 && (inB q.len 500 1000000 && (inB q.grd (-50) 50 && (inB q.spd 100 10000 && (inB q.sec 0 ((v.l.secs.length : Int) - 1) && decide (q.slow = 0))))))) := Lib.hid (by rw [HE.out, if_neg h2k])
        clear h2k HE
        go_wp2_with (go_at_call 53; refine (within_any _ _ _ _).mono ?_; rintro e w' ⟨rfl, rfl⟩)
        all_goals first
          | (go_ret
             refine ⟨ret_b ?_, hba.bel⟩
             rw [HNO.out (by rw [HE2.out]; clear HE2 HNO HYE; simp_all; done)])
          | (go_roundw
             case rel => exact ⟨k + 1, by omega, by go_num, hba, Lib.hid (HYE.out (by rw [HE2.out]; clear HE2 HNO HYE; simp_all; done))⟩
             case measure => simp [intOf]; omega)
    · have HX := Lib.hid (all_end hlt HK.out)
      go_wp2_with fail
      go_ret
      exact ⟨ret_b HX.out.symm, hb.bel⟩
end Go.Proofs.YtopoknocfoiiaaaGreatDoor
