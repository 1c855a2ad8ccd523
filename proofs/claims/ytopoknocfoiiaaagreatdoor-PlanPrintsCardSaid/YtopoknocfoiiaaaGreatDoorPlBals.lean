/- The walk of checkBalises. -/
import Derived.Test.YtopoknocfoiiaaaGreatDoorPlNames
namespace Go.Proofs.YtopoknocfoiiaaaGreatDoor
set_option linter.unusedVariables false
set_option linter.unusedSimpArgs false
open Go.RowKit
open Go.Maps (Keyed)
attribute [local go_sem] bs_size bs_get bs_append bs_extract bs_toList
attribute [-go_sem] run_equalIn_agg
theorem blsB_no1 {l : Lay} {b : Bls} (h : inB b.id 1 1073741824 = false) : blsB l b = false := by unfold blsB; rw [h]; rfl
theorem blsB_no2 {l : Lay} {b : Bls} (h : inB b.el 0 ((l.els.length : Int) - 1) = false) : blsB l b = false := by
  have h2 : ¬ (0 ≤ b.el ∧ b.el ≤ (l.els.length : Int) - 1) := by rw [← inB_iff, h]; simp
  unfold blsB
  rw [Bool.eq_false_iff]
  simp only [ne_eq, Bool.and_eq_true, decide_eq_true_eq]
  omega
theorem blsB_in {l : Lay} {b : Bls} {k : Nat} (h1 : inB b.id 1 1073741824 = true) (hk : b.el = (k : Int)) (hlt : k < l.els.length) : blsB l b = inB b.off 0 l.els[k].len := by
  have e1 : lenAt l b.el = l.els[k].len := by
    unfold lenAt
    rw [hk, Int.toNat_natCast, List.getElem?_eq_getElem hlt]
    rfl
  unfold blsB
  rw [e1, h1, decide_eq_true (show 0 ≤ b.el by omega), decide_eq_true (show b.el < (l.els.length : Int) by omega)]
  simp
theorem blC_no {l : Lay} (h : l.bls.all (blsB l) = false) : blC l = 1 := by unfold blC; rw [if_pos h]
theorem blC_dup {l : Lay} (h : l.bls.all (blsB l) = true) (hd : ¬ (l.bls.map Bls.id).Nodup) : blC l = 8 := by unfold blC; rw [if_neg (by rw [h]; simp), if_pos (decide_eq_false hd)]
theorem blC_yes {l : Lay} (h : l.bls.all (blsB l) = true) (hd : (l.bls.map Bls.id).Nodup) : blC l = 0 := by unfold blC; rw [if_neg (by rw [h]; simp), if_neg (by simp [hd])]
set_option maxRecDepth 100000 in
set_option maxHeartbeats 16000000 in
theorem checkBalises_any (v : LV) (w : World) (hr : LvR w v) (hm5 : v.l.bls.length ≤ 100000) : Calls Tryz.prog 31 #[lvA v] w fun e w' => e = .returned (.int .i64 (blC v.l)) ∧ Below w.heap.size w w' := by
  have hbx := Bx.new hr
  have hn := hr.n2.1
  unfold maxLen at hn
  unfold lvA
  go_enter Tryz.func31, Tryz.ntmps31
  go_wp2_with fail
  go_loopw [11] (fun n wr => ∃ k : Nat, k ≤ v.l.bls.length ∧ n = .int .i64 k ∧ Bx w wr v ∧ Hid ((v.l.bls.take k).all (blsB v.l) = true)) (fun n _ => v.l.bls.length - (intOf n).toNat)
  case atStart => exact ⟨0, Nat.zero_le _, rfl, hbx, Lib.hid (by simp)⟩
  case round =>
    obtain ⟨k, hk, rfl, hb, HK⟩ := hrel
    clear hbx
    by_cases hlt : k < v.l.bls.length
    · have hki : (k : Int) < (v.l.bls.length : Int) := by omega
      obtain ⟨b, off, hA, lb, ho, y0, y1, y2⟩ := hb.rd.r5.elB hlt
      have hba := hb.alloc (.cells #[.int .i64 v.l.bls[k].id, .int .i64 v.l.bls[k].el, .int .i64 v.l.bls[k].off] 51)
      have x2 := hba.x2
      have hbb := hba.bel
      have HNO := Lib.hid fun h : blsB v.l v.l.bls[k] = false => blC_no (all_no (p := blsB v.l) hlt h)
      have HYE := Lib.hid fun h : blsB v.l v.l.bls[k] = true => all_take (p := blsB v.l) hlt HK.out h
      rw [hA]
      have hwl : IntKind.i64.wrap ((v.l.els.length : Int) - 1) = (v.l.els.length : Int) - 1 := IntWalk.i64_in _ (by omega)
      cases c1 : inB v.l.bls[k].id 1 1073741824 with
      | false =>
        have HX := Lib.hid (HNO.out (blsB_no1 c1))
        clear hA ho HK HNO HYE
        generalize v.l.bls[k] = q at *
        go_wp2_with fail
        (refine wp_region_quiet_lit (by kernel_rfl) (by kernel_rfl) ?_; (repeat (any_goals (first | go_big_quiet_step ((first | (go_at_call 53; exact Calls.quiet_of_same (withinQ _ _ _ _)))) | quiet_step ((first | (go_at_call 53; exact Calls.quiet_of_same (withinQ _ _ _ _)))) | (refine wpQuiet_step (fun K hK => ?_); go_simp; split <;> (refine hK _ ?_; clear hK K))))); all_goals (refine wpQuiet_nil ?_; intro _ hw'; obtain ⟨nq, hw''⟩ := hw'; subst hw''))
        all_goals (go_wp2_with fail)
        all_goals (go_ret; exact ⟨ret_iL HX.out.symm, by (repeat' (first | (with_reducible exact Below.refl _ _) | (with_reducible assumption) | (with_reducible refine Below.drewN ?_ _) | (with_reducible refine Below.drew ?_) | (with_reducible refine Below.alloc ?_ ?_ _) | (with_reducible refine Below.setCell ?_ ?_ _) | (with_reducible exact Nat.le_refl _) | (with_reducible exact Below.size (by assumption)) | omega | (simp only [World.size_alloc, World.size_setCell, World.size_drew]; omega) | (simp; done) | (simp; omega)))⟩)
      | true =>
        cases c2 : inB v.l.bls[k].el 0 ((v.l.els.length : Int) - 1) with
        | false =>
          have HX := Lib.hid (HNO.out (blsB_no2 c2))
          clear hA ho HK HNO HYE
          generalize v.l.bls[k] = q at *
          go_wp2_with fail
          (refine wp_region_quiet_lit (by kernel_rfl) (by kernel_rfl) ?_; (repeat (any_goals (first | go_big_quiet_step ((first | (go_at_call 53; exact Calls.quiet_of_same (withinQ _ _ _ _)))) | quiet_step ((first | (go_at_call 53; exact Calls.quiet_of_same (withinQ _ _ _ _)))) | (refine wpQuiet_step (fun K hK => ?_); go_simp; split <;> (refine hK _ ?_; clear hK K))))); all_goals (refine wpQuiet_nil ?_; intro _ hw'; obtain ⟨nq, hw''⟩ := hw'; subst hw''))
          all_goals (go_wp2_with fail)
          all_goals (go_ret; exact ⟨ret_iL HX.out.symm, by (repeat' (first | (with_reducible exact Below.refl _ _) | (with_reducible assumption) | (with_reducible refine Below.drewN ?_ _) | (with_reducible refine Below.drew ?_) | (with_reducible refine Below.alloc ?_ ?_ _) | (with_reducible refine Below.setCell ?_ ?_ _) | (with_reducible exact Nat.le_refl _) | (with_reducible exact Below.size (by assumption)) | omega | (simp only [World.size_alloc, World.size_setCell, World.size_drew]; omega) | (simp; done) | (simp; omega)))⟩)
        | true =>
          have hr2 := inB_iff.1 c2
          obtain ⟨k2, hk2⟩ := Int.eq_ofNat_of_zero_le hr2.1
          have hlt2 : k2 < v.l.els.length := by omega
          have hki2 : (k2 : Int) < (v.l.els.length : Int) := by omega
          have HIN := Lib.hid (blsB_in c1 hk2 hlt2)
          obtain ⟨b2, off2, hA2, lb2, ho2, z0, z1, z2, z3, z4, z5, z6⟩ := hba.rd.r2.elE hlt2
          clear z0 z1 z3 z4 z5 z6 ho2 HK
          cases c3 : inB v.l.bls[k].off 0 v.l.els[k2].len with
          | false =>
            have HX := Lib.hid (HNO.out (by rw [HIN.out, c3]))
            clear hA ho HNO HYE HIN hr2
            generalize v.l.bls[k] = q at *
            generalize v.l.els[k2] = p at *
            obtain ⟨q1, q2, q3⟩ := q
            simp only at hk2
            subst hk2
            rw [hA2] at x2 ⊢
            clear hA2
            go_wp2_with fail
            (refine wp_region_quiet_lit (by kernel_rfl) (by kernel_rfl) ?_; (repeat (any_goals (first | go_big_quiet_step ((first | (go_at_call 53; exact Calls.quiet_of_same (withinQ _ _ _ _)))) | quiet_step ((first | (go_at_call 53; exact Calls.quiet_of_same (withinQ _ _ _ _)))) | (refine wpQuiet_step (fun K hK => ?_); go_simp; split <;> (refine hK _ ?_; clear hK K))))); all_goals (refine wpQuiet_nil ?_; intro _ hw'; obtain ⟨nq, hw''⟩ := hw'; subst hw''))
            all_goals (go_wp2_with fail)
            all_goals (go_ret; exact ⟨ret_iL HX.out.symm, by (repeat' (first | (with_reducible exact Below.refl _ _) | (with_reducible assumption) | (with_reducible refine Below.drewN ?_ _) | (with_reducible refine Below.drew ?_) | (with_reducible refine Below.alloc ?_ ?_ _) | (with_reducible refine Below.setCell ?_ ?_ _) | (with_reducible exact Nat.le_refl _) | (with_reducible exact Below.size (by assumption)) | omega | (simp only [World.size_alloc, World.size_setCell, World.size_drew]; omega) | (simp; done) | (simp; omega)))⟩)
          | true =>
            have HX := Lib.hid (HYE.out (by rw [HIN.out, c3]))
            clear hA ho HNO HYE HIN hr2
            generalize v.l.bls[k] = q at *
            generalize v.l.els[k2] = p at *
            obtain ⟨q1, q2, q3⟩ := q
            simp only at hk2
            subst hk2
            rw [hA2] at x2 ⊢
            clear hA2
            go_wp2_with fail
            (refine wp_region_quiet_lit (by kernel_rfl) (by kernel_rfl) ?_; (repeat (any_goals (first | go_big_quiet_step ((first | (go_at_call 53; exact Calls.quiet_of_same (withinQ _ _ _ _)))) | quiet_step ((first | (go_at_call 53; exact Calls.quiet_of_same (withinQ _ _ _ _)))) | (refine wpQuiet_step (fun K hK => ?_); go_simp; split <;> (refine hK _ ?_; clear hK K))))); all_goals (refine wpQuiet_nil ?_; intro _ hw'; obtain ⟨nq, hw''⟩ := hw'; subst hw''))
            all_goals (go_wp2_with fail)
            all_goals go_roundw
            case rel => exact ⟨k + 1, by omega, by go_num, hba.now (Below.drewN (Below.refl _ _) _), HX⟩
            case measure => simp [intOf]; omega
    · have HAL := Lib.hid (all_end hlt HK.out)
      have hmm := @run_makeMap Tryz.prog
      have x5 := hb.x5
      have hltb := hb.lt
      have hbm := hb.alloc (.map #[] 0)
      have x5' := hbm.x5
      have hset := SetW.made wr Tryz.prog 3 4 wr.heap.size rfl
      have HDU := Lib.hid fun h : ¬ (v.l.bls.map Bls.id).Nodup => blC_dup HAL.out h
      have HDO := Lib.hid fun h : (v.l.bls.map Bls.id).Nodup => blC_yes HAL.out h
      clear HK hb
      go_wp2_with fail
      clear hmm x5 x5'
      obtain ⟨B, hB⟩ : ∃ B, B = wr.heap.size := ⟨_, rfl⟩
      rw [← hB] at hset hltb ⊢
      clear hB
      go_loopw [47] (fun n wr => ∃ k : Nat, k ≤ v.l.bls.length ∧ n = .int .i64 k ∧ Bx w wr v ∧ SetW Tryz.prog 3 4 wr B k (((v.l.bls.map Bls.id).take k).map (Lit.int .i64)) ∧ Hid (((v.l.bls.map Bls.id).take k).Nodup)) (fun n _ => v.l.bls.length - (intOf n).toNat)
      case atStart => exact ⟨0, Nat.zero_le _, rfl, hbm, hset, Lib.hid (by simp)⟩
      case round =>
        obtain ⟨k, hk, rfl, hb, hst, HB⟩ := hrel
        clear hbm hset
        by_cases hlt : k < v.l.bls.length
        · have hki : (k : Int) < (v.l.bls.length : Int) := by omega
          obtain ⟨b, off, hA, lb, ho, y0, y1, y2⟩ := hb.rd.r5.elB hlt
          have hba := hb.alloc (.cells #[.int .i64 v.l.bls[k].id, .int .i64 v.l.bls[k].el, .int .i64 v.l.bls[k].off] 51)
          have hsta := hst.alloc (.cells #[.int .i64 v.l.bls[k].id, .int .i64 v.l.bls[k].el, .int .i64 v.l.bls[k].off] 51)
          have hlm : k < (v.l.bls.map Bls.id).length := by simpa using hlt
          have hmk : (v.l.bls.map Bls.id)[k] = v.l.bls[k].id := by simp
          have hkey := Lib.hid (int_key v.l.bls[k].id ho.1)
          have hany := any_int ((v.l.bls.map Bls.id).take k) v.l.bls[k].id
          rw [hA]
          cases hd : decide (v.l.bls[k].id ∈ (v.l.bls.map Bls.id).take k) with
          | true =>
            have HX := Lib.hid (HDU.out (not_nodup hlm (by rw [hmk]; exact of_decide_eq_true hd)))
            have HAN := Lib.hid (hany.trans hd)
            clear hd hany hA ho hmk HB HDU HDO
            generalize v.l.bls[k] = q at *
            generalize ((v.l.bls.map Bls.id).take k).map (Lit.int .i64) = ks at *
            go_wp2_with (at_lookup; go_loud (refine wpList_look_setB _ rfl _ _ 100 rfl 3 4 intKey Tryz.underlying100 Tryz.underlying4 (zeroBool _) B k ks rfl hsta _ _ rfl hkey.out true HAN.out ?_))
            go_ret
            exact ⟨ret_iL HX.out.symm, hba.bel⟩
          | false =>
            have HT := Lib.hid (nodup_take hlm HB.out (by rw [hmk]; exact of_decide_eq_false hd))
            have HAN := Lib.hid (hany.trans hd)
            have HKS : Hid (((v.l.bls.map Bls.id).take (k + 1)).map (Lit.int .i64) = ((v.l.bls.map Bls.id).take k).map (Lit.int .i64) ++ [.int .i64 v.l.bls[k].id]) := Lib.hid (by rw [List.take_succ_eq_append_getElem hlm, List.map_append, hmk]; rfl)
            clear hd hany hA ho hmk HB
            generalize v.l.bls[k] = q at *
            generalize ((v.l.bls.map Bls.id).take k).map (Lit.int .i64) = ks at *
            go_wp2_with (first | (at_lookup; go_loud (refine wpList_look_setB _ rfl _ _ 100 rfl 3 4 intKey Tryz.underlying100 Tryz.underlying4 (zeroBool _) B k ks rfl hsta _ _ rfl hkey.out false HAN.out ?_)) | (at_mapUpdate; go_loud (refine wpList_put_set _ rfl _ _ _ 100 rfl 3 4 intKey Tryz.underlying100 Tryz.underlying4 B k ks rfl hsta (by unfold maxLen; omega) _ _ rfl rfl hkey.out ?_); intro w6 hst6 hgr6))
            go_roundw
            case rel => exact ⟨k + 1, by omega, by go_num, hba.grown hr hgr6 (by omega), by rw [HKS.out]; exact hst6, HT⟩
            case measure => simp [intOf]; omega
        · have HX := Lib.hid (HDO.out (by
            have h := HB.out
            rwa [List.take_of_length_le (by simp; omega)] at h))
          go_wp2_with fail
          go_ret
          exact ⟨ret_iL HX.out.symm, hb.bel⟩
end Go.Proofs.YtopoknocfoiiaaaGreatDoor
