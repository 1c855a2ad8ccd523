/- The walks of exists, Members, and of the checks on counts, elements and sections. -/
import Derived.Test.YtopoknocfoiiaaaGreatDoorPlWalksA
namespace Go.Proofs.YtopoknocfoiiaaaGreatDoor
set_option linter.unusedVariables false
set_option linter.unusedSimpArgs false
open Go.RowKit
attribute [local go_sem] bs_size bs_get bs_append bs_extract bs_toList
attribute [-go_sem] run_equalIn_agg
theorem exB_no {l : Lay} {e : End2} (h : inB e.el 0 ((l.els.length : Int) - 1) = false) : exB l e = false := by
  have h2 : ¬ (0 ≤ e.el ∧ e.el ≤ (l.els.length : Int) - 1) := by rw [← inB_iff, h]; simp
  unfold exB
  rw [Bool.eq_false_iff]
  simp only [ne_eq, Bool.and_eq_true, decide_eq_true_eq]
  omega
theorem exB_in {l : Lay} {e : End2} {k : Nat} (hk : e.el = (k : Int)) (hlt : k < l.els.length) : exB l e = inB e.sd 0 (sidesF l.els[k].kind - 1) := by
  have e1 : kindAt l e.el = l.els[k].kind := by
    unfold kindAt
    rw [hk, Int.toNat_natCast, List.getElem?_eq_getElem hlt]
    rfl
  unfold exB
  rw [e1, Bool.eq_iff_iff, inB_iff]
  simp only [Bool.and_eq_true, decide_eq_true_eq]
  omega
theorem sidesF_b (k : Int) : 0 ≤ sidesF k ∧ sidesF k ≤ 4 := by
  unfold sidesF
  repeat' split
  all_goals omega
theorem withinQ (n lo hi : Int) (w : World) : Calls Tryz.prog 53 #[.int .i64 n, .int .i64 lo, .int .i64 hi] w fun e w' => e = .returned (.bool (inB n lo hi)) ∧ w' = w := (within_any n lo hi w).mono fun _ _ ⟨h1, h2⟩ => ⟨h1, h2.symm⟩
set_option maxRecDepth 100000 in
set_option maxHeartbeats 4000000 in
theorem exists_any (v : LV) (e : End2) (w : World) (E : EnvS w) (hr : LvR w v) : Calls Tryz.prog 56 #[lvA v, .agg #[.int .i64 e.el, .int .i64 e.sd]] w fun x w' => x = .returned (.bool (exB v.l e)) ∧ Below w.heap.size w w' := by
  have hbx := (Bx.new hr).alloc (.cells #[.int .i64 e.el, .int .i64 e.sd] 37)
  have hn := hr.n2.1
  unfold maxLen at hn
  have hwl : IntKind.i64.wrap ((v.l.els.length : Int) - 1) = (v.l.els.length : Int) - 1 := IntWalk.i64_in _ (by omega)
  cases hc : inB e.el 0 ((v.l.els.length : Int) - 1) with
  | false =>
    have HX := Lib.hid (exB_no hc)
    unfold lvA
    go_enter Tryz.func56, Tryz.ntmps56
    go_wp2_with fail
    (refine wp_region_quiet_lit (by kernel_rfl) (by kernel_rfl) ?_; (repeat (any_goals (first | go_big_quiet_step ((first | (go_at_call 53; exact Calls.quiet_of_same (withinQ _ _ _ _)))) | quiet_step ((first | (go_at_call 53; exact Calls.quiet_of_same (withinQ _ _ _ _)))) | (refine wpQuiet_step (fun K hK => ?_); go_simp; split <;> (refine hK _ ?_; clear hK K))))); all_goals (refine wpQuiet_nil ?_; intro _ hw'; obtain ⟨nq, hw''⟩ := hw'; subst hw''))
    all_goals (go_wp2_with fail)
    all_goals (go_ret; exact ⟨ret_b HX.out.symm, by (repeat' (first | (with_reducible exact Below.refl _ _) | (with_reducible assumption) | (with_reducible refine Below.drewN ?_ _) | (with_reducible refine Below.drew ?_) | (with_reducible refine Below.alloc ?_ ?_ _) | (with_reducible refine Below.setCell ?_ ?_ _) | (with_reducible exact Nat.le_refl _) | (with_reducible exact Below.size (by assumption)) | omega | (simp only [World.size_alloc, World.size_setCell, World.size_drew]; omega) | (simp; done) | (simp; omega)))⟩)
  | true =>
    have hr2 := inB_iff.1 hc
    obtain ⟨k, hk⟩ := Int.eq_ofNat_of_zero_le hr2.1
    have hlt : k < v.l.els.length := by omega
    have hki : (k : Int) < (v.l.els.length : Int) := by omega
    have HX := Lib.hid (exB_in hk hlt)
    obtain ⟨b, off, hA, lb, ho, y0, y1, y2, y3, y4, y5, y6⟩ := hbx.rd.r2.elE hlt
    have sb := sidesF_b v.l.els[k].kind
    obtain ⟨sb1, sb2⟩ := sb
    have hws : IntKind.i64.wrap (sidesF v.l.els[k].kind - 1) = sidesF v.l.els[k].kind - 1 := IntWalk.i64_in _ (by omega)
    have E1 := E.now hbx.bel
    have hbb := hbx.bel
    obtain ⟨ee, es⟩ := e
    simp only at hk hc hr2 HX hbx E1 hbb y1
    subst hk
    unfold lvA
    rw [hA] at y1 E1 hbb ⊢
    clear y0 y2 y3 y4 y5 y6 hbx ho hr hr2 hA E
    go_enter Tryz.func56, Tryz.ntmps56
    go_wp2_with fail
    (refine wp_region_quiet_lit (by kernel_rfl) (by kernel_rfl) ?_; (repeat (any_goals (first | go_big_quiet_step ((first | (go_at_call 53; exact Calls.quiet_of_same (withinQ _ _ _ _)) | (go_at_call 76; exact Calls.quiet_of_same ((sides_any _ _ (E1.now (Below.drewN (Below.refl _ _) _))).mono fun _ _ ⟨h1, h2⟩ => ⟨h1, h2.symm⟩)))) | quiet_step ((first | (go_at_call 53; exact Calls.quiet_of_same (withinQ _ _ _ _)) | (go_at_call 76; exact Calls.quiet_of_same ((sides_any _ _ (E1.now (Below.drewN (Below.refl _ _) _))).mono fun _ _ ⟨h1, h2⟩ => ⟨h1, h2.symm⟩)))) | (refine wpQuiet_step (fun K hK => ?_); go_simp; split <;> (refine hK _ ?_; clear hK K))))); all_goals (refine wpQuiet_nil ?_; intro _ hw'; obtain ⟨nq, hw''⟩ := hw'; subst hw''))
    all_goals (go_wp2_with fail)
    all_goals (go_ret; exact ⟨ret_b HX.out.symm, by (repeat' (first | (with_reducible exact Below.refl _ _) | (with_reducible assumption) | (with_reducible refine Below.drewN ?_ _) | (with_reducible refine Below.drew ?_) | (with_reducible refine Below.alloc ?_ ?_ _) | (with_reducible refine Below.setCell ?_ ?_ _) | (with_reducible exact Nat.le_refl _) | (with_reducible exact Below.size (by assumption)) | omega | (simp only [World.size_alloc, World.size_setCell, World.size_drew]; omega) | (simp; done) | (simp; omega)))⟩)
theorem existsC {l : Lay} {e : End2} {b : Bool} (v : LV) (hv : v.l = l) (h : exB l e = b) (w : World) (E : EnvS w) (hr : LvR w v) : Calls Tryz.prog 56 #[lvA v, .agg #[.int .i64 e.el, .int .i64 e.sd]] w fun x w' => x = .returned (.bool b) ∧ Below w.heap.size w w' := by
  subst hv; subst h; exact exists_any v e w E hr
set_option maxHeartbeats 4000000 in
theorem countsFit_any (v : LV) (w : World) (hr : LvR w v) : Calls Tryz.prog 25 #[lvA v] w fun e w' => e = .returned (.bool (cntB v.l)) ∧ Below w.heap.size w w' := by
  have hbx := Bx.new hr
  have hb := hbx.bel
  have h1 := hr.n1.1
  have h2 := hr.n2.1
  have h4 := hr.n4.1
  have h5 := hr.n5.1
  unfold maxLen at h1 h2 h4 h5
  have HC : Hid (cntB v.l = (inB v.l.els.length 1 32 && (inB v.l.secs.length 1 24 && (decide (v.l.sgs.length ≤ 20) && decide (v.l.bls.length ≤ 24))))) := Lib.hid rfl
  clear hbx hr
  unfold lvA
  go_enter Tryz.func25, Tryz.ntmps25
  go_wp2_with (go_at_call 53; refine (within_any _ _ _ _).mono ?_; rintro e w' ⟨rfl, rfl⟩)
  all_goals (go_ret; refine ⟨ret_b ?_, hb⟩; rw [HC.out]; clear HC hb; first | (simp_all; done) | (rw [Bool.eq_iff_iff]; simp_all; done) | (rw [Bool.eq_iff_iff]; simp_all; omega))
/-! ### The members of a section -/
def membF (l : Lay) (i : Int) : Nat → List Int
  | 0 => []
  | k + 1 => if ((l.els[k]?).map Elt.sec) = some i then membF l i k ++ [(k : Int)] else membF l i k
theorem membF_len (l : Lay) (i : Int) : ∀ k, (membF l i k).length ≤ k
  | 0 => by simp [membF]
  | k + 1 => by
    have := membF_len l i k
    unfold membF
    split
    · rw [List.length_append]; simp; omega
    · omega
theorem membF_zero (l : Lay) (i : Nat) : ∀ k, k ≤ l.els.length → ((membF l i k).length = 0 ↔ ((l.els.take k).any fun e => decide (e.sec = (i : Int))) = false)
  | 0, _ => by simp [membF]
  | k + 1, hk => by
    have ih := membF_zero l i k (by omega)
    have hlt : k < l.els.length := by omega
    unfold membF
    rw [List.getElem?_eq_getElem hlt, List.take_succ_eq_append_getElem hlt, List.any_append]
    simp only [Option.map_some, Option.some.injEq, List.any_cons, List.any_nil, Bool.or_false, Bool.or_eq_false_iff]
    split
    · rename_i h
      simp [h]
    · rename_i h
      rw [ih]
      simp [h]
theorem membF_used (l : Lay) (i : Nat) : decide ((membF l i l.els.length).length = 0) = !usedB l i := by
  have h := membF_zero l i l.els.length (Nat.le_refl _)
  rw [List.take_length] at h
  unfold usedB
  cases hu : l.els.any fun e => decide (e.sec = (i : Int)) with
  | true =>
    rw [hu] at h
    simp at h
    simp [h]
  | false =>
    rw [hu] at h
    simp at h
    simp [h]
theorem infoI : (Tryz.prog.info? 3).map (fun i => (i.zero, i.size, i.bytes)) = some (some (.int .i64 0), 1, 8) := by kernel_rfl
def MemPost (w : World) (n : Nat) (e : Ending) (w' : World) : Prop := ∃ A cap, e = .returned (.slice A n cap) ∧ Below w.heap.size w w'
set_option maxRecDepth 100000 in
set_option maxHeartbeats 8000000 in
theorem members_any (v : LV) (i : Nat) (hi : i < v.l.secs.length) (hm : v.l.els.length ≤ 1000) (w : World) (hr : LvR w v) : Calls Tryz.prog 55 #[lvA v, .int .i64 i] w (MemPost w (membF v.l i v.l.els.length).length) := by
  obtain ⟨i0, hi0, hz0, hz1, hz2⟩ := info_parts infoI
  have HL := Lib.hid fun k => membF_len v.l i k
  have hbx := Bx.new hr
  have h1 := hr.n1.1
  unfold maxLen at h1
  have hd1 : decide ((i : Int) < 0) = false := by simp
  have hd2 : decide (v.l.secs.length ≤ i) = false := by simp; omega
  unfold lvA
  go_enter Tryz.func55, Tryz.ntmps55
  go_wp2_with fail
  go_loopw [5, 20] (fun s n wr => ∃ k : Nat, k ≤ v.l.els.length ∧ n = .int .i64 k ∧ OwnR cI wr w.heap.size 3 s (membF v.l i k) 0 ∧ Bx w wr v) (fun _ n _ => v.l.els.length - (intOf n).toNat)
  case atStart => exact ⟨0, Nat.zero_le _, rfl, OwnR.nil _ _ _ _ (Nat.zero_le _), hbx⟩
  case round =>
    obtain ⟨k, hk, rfl, hown, hb⟩ := hrel
    clear hbx
    have hsz := hb.bel.size
    by_cases hlt : k < v.l.els.length
    · have hki : (k : Int) < (v.l.els.length : Int) := by omega
      obtain ⟨b, off, hA, lb, ho, y0, y1, y2, y3, y4, y5, y6⟩ := hb.rd.r2.elE hlt
      have hba := hb.alloc (.cells #[.string (bs v.l.els[k].name), .int .i64 v.l.els[k].kind, .int .i64 v.l.els[k].len, .int .i64 v.l.els[k].grd, .int .i64 v.l.els[k].spd, .int .i64 v.l.els[k].slow, .int .i64 v.l.els[k].sec] 35)
      have hown1 := hown.alloc (.cells #[.string (bs v.l.els[k].name), .int .i64 v.l.els[k].kind, .int .i64 v.l.els[k].len, .int .i64 v.l.els[k].grd, .int .i64 v.l.els[k].spd, .int .i64 v.l.els[k].slow, .int .i64 v.l.els[k].sec] 35)
      have hsa := hba.bel.size
      rw [hA]
      have hm0 : v.l.els[k]? = some v.l.els[k] := List.getElem?_eq_getElem hlt
      by_cases hx : v.l.els[k].sec = (i : Int)
      · have HN : Hid (membF v.l i (k + 1) = membF v.l i k ++ [(k : Int)]) := Lib.hid (by rw [membF, hm0, if_pos (by simp [hx])])
        have hkl := HL.out k
        have hxb : (v.l.els[k].sec == (i : Int)) = true := by simp [hx]
        clear hx hm0 hA ho
        generalize v.l.els[k] = q at *
        generalize hM : membF v.l i k = ms at *
        clear hM
        go_wp2_with (at_builtin; go_loud (refine wpList_append_r (c := cI) _ rfl _ _ 68 rfl w.heap.size 3 i0 _ 8 Tryz.underlying68 hi0 hz0 hz1 hz2 rfl (by decide) _ ms 0 rfl hown1 [_] (k : Int) ⟨rfl, by unfold I64n; omega⟩ (by simp [Value.oneCell']) _ (by simp [Act.eval]) (by omega) (by omega) (by simp; omega) ?_); intro v' w5 hown5 hf5 hs5)
        go_roundw
        case rel => exact ⟨k + 1, by omega, by go_num, by rw [HN.out]; exact hown5, ⟨hf5.keeps (Nat.le_refl _) hsa hba.bel, hf5.blk hba.blk (by decide), hr.now (hf5.keeps (Nat.le_refl _) hsa hba.bel)⟩⟩
        case measure => simp [intOf]; omega
      · have HN : Hid (membF v.l i (k + 1) = membF v.l i k) := Lib.hid (by rw [membF, hm0, if_neg (by simp [hx])])
        have hxb : (v.l.els[k].sec == (i : Int)) = false := by rw [beq_eq_false_iff_ne]; exact hx
        clear hx hm0 hA ho
        generalize v.l.els[k] = q at *
        go_wp2_with fail
        go_roundw
        case rel => exact ⟨k + 1, by omega, by go_num, by rw [HN.out]; exact hown1, hba⟩
        case measure => simp [intOf]; omega
    · obtain rfl : k = v.l.els.length := by omega
      obtain ⟨A', c', rfl, hcap, hrd⟩ := hown.reads2
      go_wp2_with fail
      go_ret
      exact ⟨A', c', rfl, hb.bel⟩
end Go.Proofs.YtopoknocfoiiaaaGreatDoor
