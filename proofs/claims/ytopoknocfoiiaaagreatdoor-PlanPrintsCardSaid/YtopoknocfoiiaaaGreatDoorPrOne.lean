/- The reference's checks of layouts: whether something is in a list twice. The reference's small functions on layouts: exists, right, Members, Joined. The reference's Joined and signals. The reference's checks of signals. The reference's checks of balises. The reference's checks of elements and joints. -/
import Derived.Test.YtopoknocfoiiaaaGreatDoorPlWalksC
import Derived.Test.YtopoknocfoiiaaaGreatDoorPlCodE
import Derived.Deep.QuietTactic
import Derived.BigQuiet
import Derived.Test.YtopoknocfoiiaaaGreatDoorPlJoin
import Derived.Test.YtopoknocfoiiaaaGreatDoorPlSig
import Derived.Test.YtopoknocfoiiaaaGreatDoorPlApp
import Derived.Test.YtopoknocfoiiaaaGreatDoorPlCheck
namespace Go.Proofs.YtopoknocfoiiaaaGreatDoor
set_option linter.unusedVariables false
set_option linter.unusedSimpArgs false
open Go.RowKit
attribute [local go_sem] bs_size bs_get bs_append bs_extract bs_toList
attribute [-go_sem] run_equalIn_agg
section
variable {α : Type} {l : List α} {k m : Nat}
theorem nd_step (h : k < l.length) (hn : (l.take k).Nodup) (hx : l[k] ∉ l.take k) : (l.take (k + 1)).Nodup := by
  rw [List.take_succ_eq_append_getElem h, List.nodup_append]
  refine ⟨hn, by simp, fun a ha b hb => ?_⟩
  rw [List.mem_singleton] at hb
  subst hb
  rintro rfl
  exact hx ha
theorem nd_dup (hm : m < k) (hk : k < l.length) (he : l[k] = l[m]) : ¬ l.Nodup := fun hn => List.pairwise_iff_getElem.1 hn m k (by omega) hk hm he.symm
theorem nd_all (hk : ¬ k < l.length) (hn : (l.take k).Nodup) : l.Nodup := by rwa [List.take_of_length_le (by omega)] at hn
theorem nd_in (hm : m < k) (hk : k < l.length) (h : l[k] ∉ l.take m) (he : ¬ l[k] = l[m]) : l[k] ∉ l.take (m + 1) := by
  rw [List.take_succ_eq_append_getElem (show m < l.length by omega)]
  intro hx
  rcases List.mem_append.1 hx with hx | hx
  · exact h hx
  · exact he (List.mem_singleton.1 hx)
end
section
variable {w : World} {S : Nat → Prop} {A : Option Addr}
theorem RdS.elI {l : List Int} (h : RdS cI w S A l) {i : Nat} (hi : i < l.length) : ∃ b off, A = some ⟨b, off, none⟩ ∧ S b ∧ I64n l[i] ∧ w.cell? ⟨b, off + i, none⟩ = some (.int .i64 l[i]) := by
  obtain ⟨b, off, h1, h2, h3⟩ := h (by omega)
  obtain ⟨ys, ⟨rfl, h4⟩, h5⟩ := h3 i l[i] (List.getElem?_eq_getElem hi)
  have := h5 0 _ rfl
  have e : off + i * cI.size + 0 = off + i := by simp [cI]
  rw [e] at this
  exact ⟨b, off, h1, h2, h4, this⟩
theorem RdS.elD {l : List End2} (h : RdS cEnd w S A l) {i : Nat} (hi : i < l.length) : ∃ b off, A = some ⟨b, off, none⟩ ∧ S b ∧ endO l[i] ∧ w.cell? ⟨b, off + i * 2, none⟩ = some (.int .i64 l[i].el) ∧ w.cell? ⟨b, off + i * 2 + 1, none⟩ = some (.int .i64 l[i].sd) := by
  obtain ⟨b, off, h1, h2, h3⟩ := h (by omega)
  obtain ⟨ys, ⟨rfl, h4⟩, h5⟩ := h3 i l[i] (List.getElem?_eq_getElem hi)
  exact ⟨b, off, h1, h2, h4, h5 0 _ rfl, h5 1 _ rfl⟩
end
theorem rsides_any (k : Int) (w : World) : Calls Tryz.prog 81 #[.int .i64 k] w fun e w' => e = .returned (.int .i64 (sidesF k)) ∧ w' = w := by
  by_cases h1 : k = 1
  · subst h1
    go_enter Tryz.func81, Tryz.ntmps81
    go_wp2_with fail
    go_ret
    exact ⟨rfl, rfl⟩
  by_cases h2 : k = 2
  · subst h2
    go_enter Tryz.func81, Tryz.ntmps81
    go_wp2_with fail
    go_ret
    exact ⟨rfl, rfl⟩
  by_cases h3 : k = 3
  · subst h3
    go_enter Tryz.func81, Tryz.ntmps81
    go_wp2_with fail
    go_ret
    exact ⟨rfl, rfl⟩
  have HS : Hid (sidesF k = 0) := Lib.hid (by unfold sidesF; rw [if_neg h1, if_neg h2, if_neg h3])
  have b1 : (k == 1) = false := by simp [h1]
  have b2 : (k == 2) = false := by simp [h2]
  have b3 : (k == 3) = false := by simp [h3]
  clear h1 h2 h3
  go_enter Tryz.func81, Tryz.ntmps81
  go_wp2_with fail
  go_ret
  exact ⟨ret_iL HS.out.symm, rfl⟩
set_option maxRecDepth 100000 in
set_option maxHeartbeats 4000000 in
theorem texts_any (l : List (List UInt8)) (A : Option Addr) (cap : Nat) (w : World) (hr : RdS cS w (Lt w) A l) (hl : l.length ≤ maxLen) : Calls Tryz.prog 65 #[.slice A l.length cap] w fun e w' => e = .returned (.bool (!decide l.Nodup)) ∧ Dr w w' := by
  unfold maxLen at hl
  have HR := Lib.hid hr
  clear hr
  go_enter Tryz.func65, Tryz.ntmps65
  go_wp2_with fail
  go_loopw [7] (fun i wr => ∃ k : Nat, k ≤ l.length ∧ i = .int .i64 k ∧ Dr w wr ∧ Hid ((l.take k).Nodup)) (fun i _ => l.length - (intOf i).toNat)
  case atStart => exact ⟨0, Nat.zero_le _, rfl, Dr.refl _, Lib.hid (by simp)⟩
  case round =>
    obtain ⟨k, hk, rfl, hdr, HK⟩ := hrel
    by_cases hlt : k < l.length
    · have hki : (k : Int) < (l.length : Int) := by omega
      go_wp2_with fail
      go_loopw [11] (fun j wr => ∃ m : Nat, m ≤ k ∧ j = .int .i64 m ∧ Dr w wr ∧ Hid (l[k] ∉ l.take m)) (fun j _ => k - (intOf j).toNat)
      case atStart => exact ⟨0, Nat.zero_le _, rfl, hdr, Lib.hid (by simp)⟩
      case round =>
        clear hdr
        obtain ⟨m, hm, rfl, hdr, HM⟩ := hrel
        by_cases hmk : m < k
        · have hmi : (m : Int) < (k : Int) := by omega
          have hmi2 : (m : Int) < (l.length : Int) := by omega
          obtain ⟨b, off, hA, _, _, x0⟩ := HR.out.elS hlt
          obtain ⟨b2, off2, hA2, _, _, y0⟩ := HR.out.elS (show m < l.length by omega)
          rw [hA] at hA2
          simp only [Option.some.injEq, Addr.mk.injEq, and_true] at hA2
          obtain ⟨rfl, rfl⟩ := hA2
          rw [hA]
          clear hA
          obtain ⟨q9, rfl⟩ := hdr
          by_cases he : l[k] = l[m]
          · have HE := Lib.hid (nd_dup hmk hlt he)
            rw [← he] at y0
            clear he HM
            generalize l[k] = q at *
            go_wp2_with fail
            go_quiet (fail)
            go_wp2_with fail
            go_ret
            exact ⟨ret_b (by rw [decide_eq_false HE.out]; rfl), by first | exact Dr.of _ _ | exact (Dr.of _ _).drewN _⟩
          · have HN := Lib.hid (nd_in hmk hlt HM.out he)
            have hb : (l[k] == l[m]) = false := by simp [he]
            clear he
            go_wp2_with fail
            go_quiet (fail)
            go_wp2_with fail
            go_roundw
            case rel => exact ⟨m + 1, by omega, by go_num, by first | exact Dr.of _ _ | exact (Dr.of _ _).drewN _, HN⟩
            case measure => simp [intOf]; omega
        · have HN : Hid ((l.take (k + 1)).Nodup) := Lib.hid (by
            have h := HM.out
            rw [show m = k by omega] at h
            exact nd_step hlt HK.out h)
          go_wp2_with fail
          go_roundw
          case rel => exact ⟨k + 1, by omega, by go_num, hdr, HN⟩
          case measure => simp [intOf]; omega
    · have HN := Lib.hid (nd_all hlt HK.out)
      go_wp2_with fail
      go_ret
      exact ⟨ret_b (by rw [decide_eq_true HN.out]; rfl), hdr⟩
set_option maxRecDepth 100000 in
set_option maxHeartbeats 4000000 in
theorem numbers_any (l : List (Int)) (A : Option Addr) (cap : Nat) (w : World) (hr : RdS cI w (Lt w) A l) (hl : l.length ≤ maxLen) : Calls Tryz.prog 71 #[.slice A l.length cap] w fun e w' => e = .returned (.bool (!decide l.Nodup)) ∧ Dr w w' := by
  unfold maxLen at hl
  have HR := Lib.hid hr
  clear hr
  go_enter Tryz.func71, Tryz.ntmps71
  go_wp2_with fail
  go_loopw [7] (fun i wr => ∃ k : Nat, k ≤ l.length ∧ i = .int .i64 k ∧ Dr w wr ∧ Hid ((l.take k).Nodup)) (fun i _ => l.length - (intOf i).toNat)
  case atStart => exact ⟨0, Nat.zero_le _, rfl, Dr.refl _, Lib.hid (by simp)⟩
  case round =>
    obtain ⟨k, hk, rfl, hdr, HK⟩ := hrel
    by_cases hlt : k < l.length
    · have hki : (k : Int) < (l.length : Int) := by omega
      go_wp2_with fail
      go_loopw [11] (fun j wr => ∃ m : Nat, m ≤ k ∧ j = .int .i64 m ∧ Dr w wr ∧ Hid (l[k] ∉ l.take m)) (fun j _ => k - (intOf j).toNat)
      case atStart => exact ⟨0, Nat.zero_le _, rfl, hdr, Lib.hid (by simp)⟩
      case round =>
        clear hdr
        obtain ⟨m, hm, rfl, hdr, HM⟩ := hrel
        by_cases hmk : m < k
        · have hmi : (m : Int) < (k : Int) := by omega
          have hmi2 : (m : Int) < (l.length : Int) := by omega
          obtain ⟨b, off, hA, _, _, x0⟩ := HR.out.elI hlt
          obtain ⟨b2, off2, hA2, _, _, y0⟩ := HR.out.elI (show m < l.length by omega)
          rw [hA] at hA2
          simp only [Option.some.injEq, Addr.mk.injEq, and_true] at hA2
          obtain ⟨rfl, rfl⟩ := hA2
          rw [hA]
          clear hA
          obtain ⟨q9, rfl⟩ := hdr
          by_cases he : l[k] = l[m]
          · have HE := Lib.hid (nd_dup hmk hlt he)
            rw [← he] at y0
            clear he HM
            generalize l[k] = q at *
            go_wp2_with fail
            go_quiet (fail)
            go_wp2_with fail
            go_ret
            exact ⟨ret_b (by rw [decide_eq_false HE.out]; rfl), by first | exact Dr.of _ _ | exact (Dr.of _ _).drewN _⟩
          · have HN := Lib.hid (nd_in hmk hlt HM.out he)
            have hb : (l[k] == l[m]) = false := by simp [he]
            clear he
            go_wp2_with fail
            go_quiet (fail)
            go_wp2_with fail
            go_roundw
            case rel => exact ⟨m + 1, by omega, by go_num, by first | exact Dr.of _ _ | exact (Dr.of _ _).drewN _, HN⟩
            case measure => simp [intOf]; omega
        · have HN : Hid ((l.take (k + 1)).Nodup) := Lib.hid (by
            have h := HM.out
            rw [show m = k by omega] at h
            exact nd_step hlt HK.out h)
          go_wp2_with fail
          go_roundw
          case rel => exact ⟨k + 1, by omega, by go_num, hdr, HN⟩
          case measure => simp [intOf]; omega
    · have HN := Lib.hid (nd_all hlt HK.out)
      go_wp2_with fail
      go_ret
      exact ⟨ret_b (by rw [decide_eq_true HN.out]; rfl), hdr⟩
set_option maxRecDepth 100000 in
set_option maxHeartbeats 4000000 in
theorem ends_any (l : List (End2)) (A : Option Addr) (cap : Nat) (w : World) (hr : RdS cEnd w (Lt w) A l) (hl : l.length ≤ maxLen) : Calls Tryz.prog 69 #[.slice A l.length cap] w fun e w' => e = .returned (.bool (!decide l.Nodup)) ∧ Dr w w' := by
  unfold maxLen at hl
  have HR := Lib.hid hr
  clear hr
  go_enter Tryz.func69, Tryz.ntmps69
  go_wp2_with fail
  go_loopw [7] (fun i wr => ∃ k : Nat, k ≤ l.length ∧ i = .int .i64 k ∧ Dr w wr ∧ Hid ((l.take k).Nodup)) (fun i _ => l.length - (intOf i).toNat)
  case atStart => exact ⟨0, Nat.zero_le _, rfl, Dr.refl _, Lib.hid (by simp)⟩
  case round =>
    obtain ⟨k, hk, rfl, hdr, HK⟩ := hrel
    by_cases hlt : k < l.length
    · have hki : (k : Int) < (l.length : Int) := by omega
      go_wp2_with fail
      go_loopw [11] (fun j wr => ∃ m : Nat, m ≤ k ∧ j = .int .i64 m ∧ Dr w wr ∧ Hid (l[k] ∉ l.take m)) (fun j _ => k - (intOf j).toNat)
      case atStart => exact ⟨0, Nat.zero_le _, rfl, hdr, Lib.hid (by simp)⟩
      case round =>
        clear hdr
        obtain ⟨m, hm, rfl, hdr, HM⟩ := hrel
        by_cases hmk : m < k
        · have hmi : (m : Int) < (k : Int) := by omega
          have hmi2 : (m : Int) < (l.length : Int) := by omega
          obtain ⟨b, off, hA, _, _, x0, x1⟩ := HR.out.elD hlt
          obtain ⟨b2, off2, hA2, _, _, y0, y1⟩ := HR.out.elD (show m < l.length by omega)
          rw [hA] at hA2
          simp only [Option.some.injEq, Addr.mk.injEq, and_true] at hA2
          obtain ⟨rfl, rfl⟩ := hA2
          rw [hA]
          clear hA
          obtain ⟨q9, rfl⟩ := hdr
          by_cases he : l[k] = l[m]
          · have HE := Lib.hid (nd_dup hmk hlt he)
            rw [← he] at y0 y1
            clear he HM
            generalize l[k] = q at *
            have heq : ∀ W, (Op.equalIn 10000 37 (.agg #[.int .i64 q.el, .int .i64 q.sd]) (.agg #[.int .i64 q.el, .int .i64 q.sd])).run Tryz.prog W = .ok true W := fun W => (by have h := eq_end W 9998 q q; rw [decide_eq_true rfl] at h; exact h)
            go_wp2_with fail
            go_quiet (fail)
            go_wp2_with fail
            go_ret
            exact ⟨ret_b (by rw [decide_eq_false HE.out]; rfl), by first | exact Dr.of _ _ | exact (Dr.of _ _).drewN _⟩
          · have HN := Lib.hid (nd_in hmk hlt HM.out he)
            generalize hq : l[k] = q at *
            generalize l[m] = r at *
            have heq : ∀ W, (Op.equalIn 10000 37 (.agg #[.int .i64 q.el, .int .i64 q.sd]) (.agg #[.int .i64 r.el, .int .i64 r.sd])).run Tryz.prog W = .ok false W := fun W => (by have h := eq_end W 9998 q r; rw [decide_eq_false he] at h; exact h)
            clear he
            have HQ := Lib.hid hq
            clear hq
            go_wp2_with fail
            go_quiet (fail)
            go_wp2_with fail
            go_roundw
            case rel => exact ⟨m + 1, by omega, by go_num, by first | exact Dr.of _ _ | exact (Dr.of _ _).drewN _, HN⟩
            case measure => simp [intOf]; omega
        · have HN : Hid ((l.take (k + 1)).Nodup) := Lib.hid (by
            have h := HM.out
            rw [show m = k by omega] at h
            exact nd_step hlt HK.out h)
          go_wp2_with fail
          go_roundw
          case rel => exact ⟨k + 1, by omega, by go_num, hdr, HN⟩
          case measure => simp [intOf]; omega
    · have HN := Lib.hid (nd_all hlt HK.out)
      go_wp2_with fail
      go_ret
      exact ⟨ret_b (by rw [decide_eq_true HN.out]; rfl), hdr⟩
end Go.Proofs.YtopoknocfoiiaaaGreatDoor
namespace Go.Proofs.YtopoknocfoiiaaaGreatDoor
set_option linter.unusedVariables false
set_option linter.unusedSimpArgs false
open Go.RowKit
attribute [local go_sem] bs_size bs_get bs_append bs_extract bs_toList
attribute [-go_sem] run_equalIn_agg
theorem exR_lo {l : Lay} {e : End2} (h : e.el < 0) : exB l e = false := by unfold exB; rw [decide_eq_false (by omega)]; rfl
theorem exR_hi {l : Lay} {e : End2} (h : (l.els.length : Int) ≤ e.el) : exB l e = false := by unfold exB; rw [decide_eq_false (by omega : ¬ e.el < l.els.length)]; simp
theorem exR_sd {l : Lay} {e : End2} (h : e.sd < 0) : exB l e = false := by unfold exB; rw [decide_eq_false (by omega : ¬ 0 ≤ e.sd)]; simp
theorem exR_in {l : Lay} {k : Nat} {d : Int} (h : k < l.els.length) (hd : 0 ≤ d) : exB l ⟨(k : Int), d⟩ = decide (d < sidesF l.els[k].kind) := by
  have hk : kindAt l (k : Int) = l.els[k].kind := by
    unfold kindAt
    rw [Int.toNat_natCast, List.getElem?_eq_getElem h]
    rfl
  unfold exB
  simp only [hk]
  rw [decide_eq_true (by omega : (0 : Int) ≤ (k : Int)), decide_eq_true (by omega : (k : Int) < (l.els.length : Int)), decide_eq_true hd]
  rfl
set_option maxRecDepth 100000 in
set_option maxHeartbeats 4000000 in
theorem rexists_any (v : LV) (e : End2) (w : World) (hr : LvR w v) : Calls Tryz.prog 68 #[lvA v, .agg #[.int .i64 e.el, .int .i64 e.sd]] w fun x w' => x = .returned (.bool (exB v.l e)) ∧ Below w.heap.size w w' := by
  have hbx := (Bx.new hr).alloc (.cells #[.int .i64 e.el, .int .i64 e.sd] 37)
  have hn := hr.n2.1
  unfold maxLen at hn
  by_cases h0 : e.el < 0
  · have HX := Lib.hid (exR_lo (l := v.l) h0)
    have d0 : decide (0 ≤ e.el) = false := by simp; omega
    clear h0
    unfold lvA
    go_enter Tryz.func68, Tryz.ntmps68
    go_wp2_with fail
    (refine wp_region_quiet_lit (by kernel_rfl) (by kernel_rfl) ?_; (repeat (any_goals (first | go_big_quiet_step ((first | (go_at_call 81; exact Calls.quiet_of_same (rsides_any _ _)))) | quiet_step ((first | (go_at_call 81; exact Calls.quiet_of_same (rsides_any _ _)))) | (refine wpQuiet_step (fun K hK => ?_); go_simp; split <;> (refine hK _ ?_; clear hK K))))); all_goals (refine wpQuiet_nil ?_; intro _ hw'; obtain ⟨nq, hw''⟩ := hw'; subst hw''))
    all_goals (go_wp2_with fail)
    all_goals (go_ret; exact ⟨ret_b HX.out.symm, by (repeat' (first | (with_reducible exact Below.refl _ _) | (with_reducible assumption) | (with_reducible refine Below.drewN ?_ _) | (with_reducible refine Below.drew ?_) | (with_reducible refine Below.alloc ?_ ?_ _) | (with_reducible refine Below.setCell ?_ ?_ _) | (with_reducible exact Nat.le_refl _) | (with_reducible exact Below.size (by assumption)) | omega | (simp only [World.size_alloc, World.size_setCell, World.size_drew]; omega) | (simp; done) | (simp; omega)))⟩)
  · have d0 : decide (0 ≤ e.el) = true := by simp; omega
    by_cases h1 : (v.l.els.length : Int) ≤ e.el
    · have HX := Lib.hid (exR_hi h1)
      have d1 : decide (e.el < (v.l.els.length : Int)) = false := by simp; omega
      clear h0 h1
      unfold lvA
      go_enter Tryz.func68, Tryz.ntmps68
      go_wp2_with fail
      (refine wp_region_quiet_lit (by kernel_rfl) (by kernel_rfl) ?_; (repeat (any_goals (first | go_big_quiet_step ((first | (go_at_call 81; exact Calls.quiet_of_same (rsides_any _ _)))) | quiet_step ((first | (go_at_call 81; exact Calls.quiet_of_same (rsides_any _ _)))) | (refine wpQuiet_step (fun K hK => ?_); go_simp; split <;> (refine hK _ ?_; clear hK K))))); all_goals (refine wpQuiet_nil ?_; intro _ hw'; obtain ⟨nq, hw''⟩ := hw'; subst hw''))
      all_goals (go_wp2_with fail)
      all_goals (go_ret; exact ⟨ret_b HX.out.symm, by (repeat' (first | (with_reducible exact Below.refl _ _) | (with_reducible assumption) | (with_reducible refine Below.drewN ?_ _) | (with_reducible refine Below.drew ?_) | (with_reducible refine Below.alloc ?_ ?_ _) | (with_reducible refine Below.setCell ?_ ?_ _) | (with_reducible exact Nat.le_refl _) | (with_reducible exact Below.size (by assumption)) | omega | (simp only [World.size_alloc, World.size_setCell, World.size_drew]; omega) | (simp; done) | (simp; omega)))⟩)
    · by_cases h2 : e.sd < 0
      · have HX := Lib.hid (exR_sd (l := v.l) h2)
        have d1 : decide (e.el < (v.l.els.length : Int)) = true := by simp; omega
        have d2 : decide (0 ≤ e.sd) = false := by simp; omega
        clear h0 h1 h2
        unfold lvA
        go_enter Tryz.func68, Tryz.ntmps68
        go_wp2_with fail
        (refine wp_region_quiet_lit (by kernel_rfl) (by kernel_rfl) ?_; (repeat (any_goals (first | go_big_quiet_step ((first | (go_at_call 81; exact Calls.quiet_of_same (rsides_any _ _)))) | quiet_step ((first | (go_at_call 81; exact Calls.quiet_of_same (rsides_any _ _)))) | (refine wpQuiet_step (fun K hK => ?_); go_simp; split <;> (refine hK _ ?_; clear hK K))))); all_goals (refine wpQuiet_nil ?_; intro _ hw'; obtain ⟨nq, hw''⟩ := hw'; subst hw''))
        all_goals (go_wp2_with fail)
        all_goals (go_ret; exact ⟨ret_b HX.out.symm, by (repeat' (first | (with_reducible exact Below.refl _ _) | (with_reducible assumption) | (with_reducible refine Below.drewN ?_ _) | (with_reducible refine Below.drew ?_) | (with_reducible refine Below.alloc ?_ ?_ _) | (with_reducible refine Below.setCell ?_ ?_ _) | (with_reducible exact Nat.le_refl _) | (with_reducible exact Below.size (by assumption)) | omega | (simp only [World.size_alloc, World.size_setCell, World.size_drew]; omega) | (simp; done) | (simp; omega)))⟩)
      · obtain ⟨k, hk⟩ := Int.eq_ofNat_of_zero_le (show 0 ≤ e.el by omega)
        have hlt : k < v.l.els.length := by omega
        have hki : (k : Int) < (v.l.els.length : Int) := by omega
        have HX := Lib.hid (exR_in (l := v.l) (d := e.sd) hlt (by omega))
        obtain ⟨b, off, hA, lb, ho, y0, y1, y2, y3, y4, y5, y6⟩ := hbx.rd.r2.elE hlt
        have d2 : decide (0 ≤ e.sd) = true := by simp; omega
        have hbb := hbx.bel
        obtain ⟨ee, es⟩ := e
        simp only at hk h0 h1 h2 HX hbx hbb y1 d0 d2
        subst hk
        unfold lvA
        rw [hA] at y1 hbb ⊢
        clear y0 y2 y3 y4 y5 y6 hbx ho hr hA h0 h1 h2 d0
        go_enter Tryz.func68, Tryz.ntmps68
        go_wp2_with fail
        (refine wp_region_quiet_lit (by kernel_rfl) (by kernel_rfl) ?_; (repeat (any_goals (first | go_big_quiet_step ((first | (go_at_call 81; exact Calls.quiet_of_same (rsides_any _ _)))) | quiet_step ((first | (go_at_call 81; exact Calls.quiet_of_same (rsides_any _ _)))) | (refine wpQuiet_step (fun K hK => ?_); go_simp; split <;> (refine hK _ ?_; clear hK K))))); all_goals (refine wpQuiet_nil ?_; intro _ hw'; obtain ⟨nq, hw''⟩ := hw'; subst hw''))
        all_goals (go_wp2_with fail)
        all_goals (go_ret; exact ⟨ret_b HX.out.symm, by (repeat' (first | (with_reducible exact Below.refl _ _) | (with_reducible assumption) | (with_reducible refine Below.drewN ?_ _) | (with_reducible refine Below.drew ?_) | (with_reducible refine Below.alloc ?_ ?_ _) | (with_reducible refine Below.setCell ?_ ?_ _) | (with_reducible exact Nat.le_refl _) | (with_reducible exact Below.size (by assumption)) | omega | (simp only [World.size_alloc, World.size_setCell, World.size_drew]; omega) | (simp; done) | (simp; omega)))⟩)
theorem eltB_iff2 {l : Lay} {x : Elt} : eltB l x = true ↔ (1 ≤ x.kind ∧ x.kind ≤ 3) ∧ (500 ≤ x.len ∧ x.len ≤ 1000000) ∧ (-50 ≤ x.grd ∧ x.grd ≤ 50) ∧ (100 ≤ x.spd ∧ x.spd ≤ 10000) ∧ (0 ≤ x.sec ∧ x.sec < l.secs.length) ∧ (x.kind = 2 → 100 ≤ x.slow ∧ x.slow ≤ x.spd) ∧ (x.kind ≠ 2 → x.slow = 0) := by
  constructor
  · exact eltB_iff
  · rintro ⟨h1, h2, h3, h4, h5, h6, h7⟩
    unfold eltB
    simp only [Bool.and_eq_true, inB_iff]
    refine ⟨h1, h2, h3, h4, by omega, ?_⟩
    by_cases hk : x.kind = 2
    · rw [if_pos hk]; exact inB_iff.2 (h6 hk)
    · rw [if_neg hk]; simpa using h7 hk
set_option maxRecDepth 100000 in
set_option maxHeartbeats 8000000 in
theorem right_any (v : LV) (x : Elt) (w : World) (hr : LvR w v) : Calls Tryz.prog 66 #[lvA v, .agg #[.string (bs x.name), .int .i64 x.kind, .int .i64 x.len, .int .i64 x.grd, .int .i64 x.spd, .int .i64 x.slow, .int .i64 x.sec]] w fun e w' => e = .returned (.bool (eltB v.l x)) ∧ Below w.heap.size w w' := by
  have hbx := ((Bx.new hr).alloc (.cells #[.string (bs x.name), .int .i64 x.kind, .int .i64 x.len, .int .i64 x.grd, .int .i64 x.spd, .int .i64 x.slow, .int .i64 x.sec] 35)).bel
  unfold lvA
  go_enter Tryz.func66, Tryz.ntmps66
  go_wp2_with fail
  all_goals (go_ret; refine ⟨ret_b ?_, hbx⟩; rw [Bool.eq_iff_iff, eltB_iff2]; simp only [decide_eq_true_eq, Bool.false_eq_true, false_iff, true_iff, iff_false, beq_iff_eq, bne_iff_ne, beq_eq_false_iff_ne, ne_eq] at *; omega)
set_option maxRecDepth 100000 in
set_option maxHeartbeats 8000000 in
theorem rmembers_any (v : LV) (i : Nat) (hi : i < v.l.secs.length) (hm : v.l.els.length ≤ 1000) (w : World) (hr : LvR w v) : Calls Tryz.prog 67 #[lvA v, .int .i64 i] w (MemPost w (membF v.l i v.l.els.length).length) := by
  obtain ⟨i0, hi0, hz0, hz1, hz2⟩ := info_parts infoI
  have HL := Lib.hid fun k => membF_len v.l i k
  have hbx := Bx.new hr
  have h1 := hr.n1.1
  unfold maxLen at h1
  have hd1 : decide ((0 : Int) ≤ (i : Int)) = true := by simp
  have hd2 : decide (i < v.l.secs.length) = true := by simp; omega
  have hd3 : decide ((i : Int) < (v.l.secs.length : Int)) = true := by simp; omega
  unfold lvA
  go_enter Tryz.func67, Tryz.ntmps67
  go_wp2_with fail
  go_loopw [5, 11] (fun s n wr => ∃ k : Nat, k ≤ v.l.els.length ∧ n = .int .i64 k ∧ OwnR cI wr w.heap.size 3 s (membF v.l i k) 0 ∧ Bx w wr v) (fun _ n _ => v.l.els.length - (intOf n).toNat)
  case atStart => exact ⟨0, Nat.zero_le _, rfl, OwnR.nil _ _ _ _ (Nat.zero_le _), hbx⟩
  case round =>
    obtain ⟨k, hk, rfl, hown, hb⟩ := hrel
    clear hbx
    have hsz := hb.bel.size
    by_cases hlt : k < v.l.els.length
    · have hki : (k : Int) < (v.l.els.length : Int) := by omega
      obtain ⟨b, off, hA, lb, ho, y0, y1, y2, y3, y4, y5, y6⟩ := hb.rd.r2.elE hlt
      have hba := hb.alloc (.cells #[.string (bs v.l.els[k].name), .int .i64 v.l.els[k].kind, .int .i64 v.l.els[k].len, .int .i64 v.l.els[k].grd, .int .i64 v.l.els[k].spd, .int .i64 v.l.els[k].slow, .int .i64 v.l.els[k].sec] 35)
      have hown1 := hown.alloc (.cells #[.string (bs v.l.els[k].name), .int .i64 v.l.els[k].kind, .int .i64 v.l.els[k].len, .int .i64 v.l.els[k].grd, .int .i64 v.l.els[k].spd, .int .i64 v.l.els[k].slow, .int .i64 v.l.els[k].sec] 35)
      have hsa := hba.bel.size
      have x1 := hba.x1
      rw [hA]
      have hm0 : v.l.els[k]? = some v.l.els[k] := List.getElem?_eq_getElem hlt
      by_cases hx : v.l.els[k].sec = (i : Int)
      · have HN : Hid (membF v.l i (k + 1) = membF v.l i k ++ [(k : Int)]) := Lib.hid (by rw [membF, hm0, if_pos (by simp [hx])])
        have hkl := HL.out k
        have hxb : (v.l.els[k].sec == (i : Int)) = true := by simp [hx]
        clear hx hm0 hA ho
        generalize v.l.els[k] = q at *
        generalize hM : membF v.l i k = ms at *
        clear hM
        go_wp2_with (at_builtin; go_loud (refine wpList_append_r (c := cI) _ rfl _ _ 68 rfl w.heap.size 3 i0 _ 8 Tryz.underlying68 hi0 hz0 hz1 hz2 rfl (by decide) _ ms 0 rfl hown1 [_] (k : Int) ⟨rfl, by unfold I64n; omega⟩ (by simp [Value.oneCell']) _ (by simp [Act.eval]) (by omega) (by omega) (by simp; omega) ?_); intro v' w5 hown5 hf5 hs5)
        go_roundw
        case rel => exact ⟨k + 1, by omega, by go_num, by rw [HN.out]; exact hown5, ⟨hf5.keeps (Nat.le_refl _) hsa hba.bel, hf5.blk hba.blk (by decide), hr.now (hf5.keeps (Nat.le_refl _) hsa hba.bel)⟩⟩
        case measure => simp [intOf]; omega
      · have HN : Hid (membF v.l i (k + 1) = membF v.l i k) := Lib.hid (by rw [membF, hm0, if_neg (by simp [hx])])
        have hxb : (v.l.els[k].sec == (i : Int)) = false := by rw [beq_eq_false_iff_ne]; exact hx
        clear hx hm0 hA ho
        generalize v.l.els[k] = q at *
        go_wp2_with fail
        go_roundw
        case rel => exact ⟨k + 1, by omega, by go_num, by rw [HN.out]; exact hown1, hba⟩
        case measure => simp [intOf]; omega
    · obtain rfl : k = v.l.els.length := by omega
      obtain ⟨A', c', rfl, hcap, hrd⟩ := hown.reads2
      go_wp2_with fail
      go_ret
      exact ⟨A', c', rfl, hb.bel⟩
theorem joinedF_at : ∀ {js : List Jnt} {e : End2} {k : Nat} (hk : k < js.length), (∀ i, i < k → ∀ h : i < js.length, js[i].a ≠ e ∧ js[i].b ≠ e) → joinedF js e = joinedF (js.drop k) e
  | [], e, k, hk, _ => by simp at hk
  | j :: r, e, 0, _, _ => rfl
  | j :: r, e, k + 1, hk, h => by
    have h0 := h 0 (by omega) (by simp)
    simp only [List.getElem_cons_zero] at h0
    rw [joinedF, if_neg h0.1, if_neg h0.2, List.drop_succ_cons]
    exact joinedF_at (by simpa using hk) fun i hi hl => by
      have := h (i + 1) (by omega) (by simpa using hl)
      simpa using this
end Go.Proofs.YtopoknocfoiiaaaGreatDoor
namespace Go.Proofs.YtopoknocfoiiaaaGreatDoor
set_option linter.unusedVariables false
set_option linter.unusedSimpArgs false
open Go.RowKit
attribute [local go_sem] bs_size bs_get bs_append bs_extract bs_toList
attribute [-go_sem] run_equalIn_agg
theorem joined_drop {js : List Jnt} {k : Nat} {e : End2} (hk : k < js.length) : joinedF (js.drop k) e = if js[k].a = e then some js[k].b else if js[k].b = e then some js[k].a else joinedF (js.drop (k + 1)) e := by
  rw [List.drop_eq_getElem_cons hk, joinedF]
theorem joined_mem : ∀ {js : List Jnt} {e f : End2}, joinedF js e = some f → ∃ j ∈ js, f = j.a ∨ f = j.b
  | [], e, f, h => by simp [joinedF] at h
  | j :: r, e, f, h => by
    unfold joinedF at h
    split at h
    · simp only [Option.some.injEq] at h
      exact ⟨j, by simp, Or.inr h.symm⟩
    · split at h
      · simp only [Option.some.injEq] at h
        exact ⟨j, by simp, Or.inl h.symm⟩
      · obtain ⟨j', h1, h2⟩ := joined_mem h
        exact ⟨j', by simp [h1], h2⟩
def endZ (o : Option End2) : End2 := o.getD ⟨0, 0⟩
set_option maxRecDepth 100000 in
set_option maxHeartbeats 8000000 in
theorem rjoined_any (v : LV) (x : End2) (w : World) (hr : LvR w v) (o : Option End2) (ho : joinedF v.l.jts x = o) : Calls Tryz.prog 70 #[lvA v, .agg #[.int .i64 x.el, .int .i64 x.sd]] w fun e w' => e = .returned (.tuple #[.agg #[.int .i64 (endZ o).el, .int .i64 (endZ o).sd], .bool o.isSome]) ∧ Below w.heap.size w w' := by
  have hbx := ((Bx.new hr).alloc (.cells #[.int .i64 x.el, .int .i64 x.sd] 37)).alloc (.cells #[.int .i64 0, .int .i64 0] 37)
  have hx1 : Blk (((w.alloc (.cells #[.string (bs v.l.name), .slice v.A1 v.l.secs.length v.c1, .slice v.A2 v.l.els.length v.c2, .slice v.A3 v.l.jts.length v.c3, .slice v.A4 v.l.sgs.length v.c4, .slice v.A5 v.l.bls.length v.c5] 28)).alloc (.cells #[.int .i64 x.el, .int .i64 x.sd] 37)).alloc (.cells #[.int .i64 0, .int .i64 0] 37)) (w.heap.size + 1) 37 #[.int .i64 x.el, .int .i64 x.sd] := (Blk.new _ _ _ _ (by simp)).alloc _
  have hx2 : Blk (((w.alloc (.cells #[.string (bs v.l.name), .slice v.A1 v.l.secs.length v.c1, .slice v.A2 v.l.els.length v.c2, .slice v.A3 v.l.jts.length v.c3, .slice v.A4 v.l.sgs.length v.c4, .slice v.A5 v.l.bls.length v.c5] 28)).alloc (.cells #[.int .i64 x.el, .int .i64 x.sd] 37)).alloc (.cells #[.int .i64 0, .int .i64 0] 37)) (w.heap.size + 1 + 1) 37 #[.int .i64 0, .int .i64 0] := Blk.new _ _ _ _ (by simp)
  have hn := hr.n3.1
  have HQ := Lib.hid fun W (y : End2) => eq_end W 9998 y x
  have HO := Lib.hid ho
  clear ho
  unfold maxLen at hn
  unfold lvA
  go_enter Tryz.func70, Tryz.ntmps70
  go_wp2_with fail
  go_loopw [11] (fun i wr => ∃ k : Nat, k ≤ v.l.jts.length ∧ i = .int .i64 k ∧ Bx w wr v ∧ Blk wr (w.heap.size + 1) 37 #[.int .i64 x.el, .int .i64 x.sd] ∧ Blk wr (w.heap.size + 1 + 1) 37 #[.int .i64 0, .int .i64 0] ∧ Hid (joinedF (v.l.jts.drop k) x = o)) (fun i _ => v.l.jts.length - (intOf i).toNat)
  case atStart => exact ⟨0, Nat.zero_le _, rfl, hbx, hx1, hx2, Lib.hid (by rw [List.drop_zero]; exact HO.out)⟩
  case round =>
    obtain ⟨k, hk, rfl, hb, hxa, hxb, HK⟩ := hrel
    clear hbx hx1 hx2
    by_cases hlt : k < v.l.jts.length
    · have hki : (k : Int) < (v.l.jts.length : Int) := by omega
      have hdr := joined_drop (e := x) hlt
      rw [HK.out] at hdr
      obtain ⟨b, off, hA, lb, hqo, y0, y1, y2, y3⟩ := hb.rd.r3.elJ hlt
      have hba := hb.alloc (.cells #[.int .i64 v.l.jts[k].a.el, .int .i64 v.l.jts[k].a.sd, .int .i64 v.l.jts[k].b.el, .int .i64 v.l.jts[k].b.sd] 39)
      have hxa1 := hxa.alloc (.cells #[.int .i64 v.l.jts[k].a.el, .int .i64 v.l.jts[k].a.sd, .int .i64 v.l.jts[k].b.el, .int .i64 v.l.jts[k].b.sd] 39)
      have hxb1 := hxb.alloc (.cells #[.int .i64 v.l.jts[k].a.el, .int .i64 v.l.jts[k].a.sd, .int .i64 v.l.jts[k].b.el, .int .i64 v.l.jts[k].b.sd] 39)
      have x0 := hxa1.cell 0
      have x1 := hxa1.cell 1
      have z0 := hxb1.cell 0
      have z1 := hxb1.cell 1
      have zf := hxb1.free
      simp only [List.getElem?_toArray, List.getElem?_cons_zero, List.getElem?_cons_succ] at x0 x1 z0 z1
      have hqa := fun W => HQ.out W v.l.jts[k].a
      have hqb := fun W => HQ.out W v.l.jts[k].b
      rw [hA]
      by_cases h1 : v.l.jts[k].a = x
      · have HF : Hid (o = some v.l.jts[k].b) := Lib.hid (by rw [hdr, if_pos h1])
        rw [decide_eq_true h1] at hqa
        clear h1 hdr hqb hA hqo hb
        generalize v.l.jts[k] = q at *
        have hbe := (hba.bel.setCell (p := ⟨w.heap.size + 1 + 1, 0, none⟩) (show w.heap.size ≤ w.heap.size + 1 + 1 by omega) (.int .i64 q.b.el)).setCell (p := ⟨w.heap.size + 1 + 1, 1, none⟩) (show w.heap.size ≤ w.heap.size + 1 + 1 by omega) (.int .i64 q.b.sd)
        have HBE := Lib.hid hbe
        clear hbe hba hxa hxb hxa1 hxb1
        go_wp2_with fail
        exact bodyPost_ret (v := .tuple #[.agg #[.int .i64 q.b.el, .int .i64 q.b.sd], .bool true]) (by simp [results, Tryz.results70, go_sem, z0, z1]) rfl ⟨by rw [HF.out]; rfl, HBE.out⟩
      · by_cases h2 : v.l.jts[k].b = x
        · have HF : Hid (o = some v.l.jts[k].a) := Lib.hid (by rw [hdr, if_neg h1, if_pos h2])
          rw [decide_eq_false h1] at hqa
          rw [decide_eq_true h2] at hqb
          clear h1 h2 hdr hA hqo hb
          generalize v.l.jts[k] = q at *
          have hbe := (hba.bel.setCell (p := ⟨w.heap.size + 1 + 1, 0, none⟩) (show w.heap.size ≤ w.heap.size + 1 + 1 by omega) (.int .i64 q.a.el)).setCell (p := ⟨w.heap.size + 1 + 1, 1, none⟩) (show w.heap.size ≤ w.heap.size + 1 + 1 by omega) (.int .i64 q.a.sd)
          have HBE := Lib.hid hbe
          clear hbe hba hxa hxb hxa1 hxb1
          go_wp2_with fail
          exact bodyPost_ret (v := .tuple #[.agg #[.int .i64 q.a.el, .int .i64 q.a.sd], .bool true]) (by simp [results, Tryz.results70, go_sem, z0, z1]) rfl ⟨by rw [HF.out]; rfl, HBE.out⟩
        · have HN : Hid (joinedF (v.l.jts.drop (k + 1)) x = o) := Lib.hid (by rw [hdr, if_neg h1, if_neg h2])
          rw [decide_eq_false h1] at hqa
          rw [decide_eq_false h2] at hqb
          clear h1 h2 hdr hA hqo
          generalize v.l.jts[k] = q at *
          go_wp2_with fail
          go_roundw
          case rel => exact ⟨k + 1, by omega, by go_num, hba, hxa1, hxb1, HN⟩
          case measure => simp [intOf]; omega
    · have HF : Hid (o = none) := Lib.hid (by rw [← HK.out, List.drop_of_length_le (by omega)]; rfl)
      have z0 := hxb.cell 0
      have z1 := hxb.cell 1
      have zf := hxb.free
      simp only [List.getElem?_toArray, List.getElem?_cons_zero, List.getElem?_cons_succ] at z0 z1
      have HBE := Lib.hid ((hb.bel.setCell (p := ⟨w.heap.size + 1 + 1, 0, none⟩) (show w.heap.size ≤ w.heap.size + 1 + 1 by omega) (.int .i64 0)).setCell (p := ⟨w.heap.size + 1 + 1, 1, none⟩) (show w.heap.size ≤ w.heap.size + 1 + 1 by omega) (.int .i64 0))
      clear hxa hxb hb
      go_wp2_with fail
      exact bodyPost_ret (v := .tuple #[.agg #[.int .i64 0, .int .i64 0], .bool false]) (by simp [results, Tryz.results70, go_sem, z0, z1]) rfl ⟨by rw [HF.out]; rfl, HBE.out⟩
end Go.Proofs.YtopoknocfoiiaaaGreatDoor
namespace Go.Proofs.YtopoknocfoiiaaaGreatDoor
set_option linter.unusedVariables false
set_option linter.unusedSimpArgs false
open Go.RowKit
attribute [local go_sem] bs_size bs_get bs_append bs_extract bs_toList
attribute [-go_sem] run_equalIn_agg
theorem infoEnd : (Tryz.prog.info? 37).map (fun i => (i.zero, i.size, i.bytes)) = some (some (.agg #[.int .i64 0, .int .i64 0]), 2, 16) := by kernel_rfl
theorem rexC {l : Lay} {e : End2} {c : Bool} (v : LV) (hv : v.l = l) (h : exB l e = c) (w : World) (hr : LvR w v) : Calls Tryz.prog 68 #[lvA v, .agg #[.int .i64 e.el, .int .i64 e.sd]] w fun x w' => x = .returned (.bool c) ∧ Below w.heap.size w w' := by
  subst hv; subst h; exact rexists_any v e w hr
theorem sgC_1 {l : Lay} (h : l.sgs.all (sgnB l) = false) : sgC l = 1 := by unfold sgC; rw [if_pos h]
theorem sgC_8 {l : Lay} (h : l.sgs.all (sgnB l) = true) (h2 : ¬ (l.sgs.map Sgn.pos).Nodup) : sgC l = 8 := by unfold sgC; rw [if_neg (by rw [h]; simp), if_pos (decide_eq_false h2)]
theorem sgC_14 {l : Lay} (h : l.sgs.all (sgnB l) = true) (h2 : (l.sgs.map Sgn.pos).Nodup) (h3 : (l.sgs.all fun s => safeB l s.pos) = false) : sgC l = 14 := by unfold sgC; rw [if_neg (by rw [h]; simp), if_neg (by rw [decide_eq_true h2]; simp), if_pos h3]
theorem sgC_0 {l : Lay} (h : l.sgs.all (sgnB l) = true) (h2 : (l.sgs.map Sgn.pos).Nodup) (h3 : (l.sgs.all fun s => safeB l s.pos) = true) : sgC l = 0 := by unfold sgC; rw [if_neg (by rw [h]; simp), if_neg (by rw [decide_eq_true h2]; simp), if_neg (by rw [h3]; simp)]
theorem all_no2 {α : Type} {p : α → Bool} {l : List α} {k : Nat} (hk : k < l.length) (h : p l[k] = false) : l.all p = false := by
  rw [Bool.eq_false_iff]
  intro ha
  rw [List.all_eq_true] at ha
  have := ha _ (List.getElem_mem hk)
  rw [h] at this
  cases this
theorem all_take2 {α : Type} {p : α → Bool} {l : List α} {k : Nat} (hk : k < l.length) (h : (l.take k).all p = true) (h2 : p l[k] = true) : (l.take (k + 1)).all p = true := by
  rw [List.take_succ_eq_append_getElem hk, List.all_append, h]
  simp [h2]
theorem all_end2 {α : Type} {p : α → Bool} {l : List α} {k : Nat} (hk : ¬ k < l.length) (h : (l.take k).all p = true) : l.all p = true := by rwa [List.take_of_length_le (by omega)] at h
theorem sgn_no1 {l : Lay} {s : Sgn} (h : exB l s.pos = false) : sgnB l s = false := by unfold sgnB; rw [h]; rfl
theorem sgn_no2 {l : Lay} {s : Sgn} (h : s.ovl < 0 ∨ 1000000 < s.ovl) : sgnB l s = false := by unfold sgnB inB; rcases h with h | h <;> simp <;> omega
theorem sgn_yes {l : Lay} {s : Sgn} (h : exB l s.pos = true) (h2 : ¬ s.ovl < 0) (h3 : ¬ 1000000 < s.ovl) : sgnB l s = true := by unfold sgnB inB; simp [h]; omega
theorem pos_take {l : List Sgn} {k : Nat} (h : k < l.length) : (l.take (k + 1)).map Sgn.pos = (l.take k).map Sgn.pos ++ [l[k].pos] := by rw [List.take_succ_eq_append_getElem h, List.map_append]; rfl
theorem rsafe_none {l : Lay} {p : End2} (h : joinedF l.jts p = none) : safeB l p = false := by unfold safeB; rw [h]
theorem rsafe_some {l : Lay} {p f : End2} (h : joinedF l.jts p = some f) : safeB l p = decide (secAt l f.el ≠ secAt l p.el) := by unfold safeB; rw [h]
set_option maxRecDepth 100000 in
set_option maxHeartbeats 16000000 in
theorem rsignals_any (v : LV) (w : World) (hr : LvR w v) (hm4 : v.l.sgs.length ≤ 1000) (hjt : v.l.jts.all (jntB v.l) = true) : Calls Tryz.prog 42 #[lvA v] w fun e w' => e = .returned (.int .i64 (sgC v.l)) ∧ Below w.heap.size w w' := by
  obtain ⟨i0, hi0, hz0, hz1, hz2⟩ := info_parts infoEnd
  have hbx := Bx.new hr
  have hn2 := hr.n2.1
  unfold maxLen at hn2
  have HJ : Hid (∀ (p f : End2), joinedF v.l.jts p = some f → exB v.l f = true) := Lib.hid fun p f h => by
    obtain ⟨j, hj, h2⟩ := joined_mem h
    rw [List.all_eq_true] at hjt
    obtain ⟨h3, h4, _⟩ := jntB_iff (hjt j hj)
    rcases h2 with rfl | rfl
    · exact h3
    · exact h4
  have HS1 := Lib.hid fun h => sgC_1 (l := v.l) h
  have HS8 := Lib.hid fun h h2 => sgC_8 (l := v.l) h h2
  have HS14 := Lib.hid fun h h2 h3 => sgC_14 (l := v.l) h h2 h3
  have HS0 := Lib.hid fun h h2 h3 => sgC_0 (l := v.l) h h2 h3
  clear hjt
  unfold lvA
  go_enter Tryz.func42, Tryz.ntmps42
  go_wp2_with fail
  go_loopw [3, 13] (fun s n wr => ∃ k : Nat, k ≤ v.l.sgs.length ∧ n = .int .i64 k ∧ OwnR cEnd wr w.heap.size 37 s ((v.l.sgs.take k).map Sgn.pos) 0 ∧ Bx w wr v ∧ Hid ((v.l.sgs.take k).all (sgnB v.l) = true)) (fun _ n _ => v.l.sgs.length - (intOf n).toNat)
  case atStart => exact ⟨0, Nat.zero_le _, rfl, OwnR.nil _ _ _ _ (Nat.zero_le _), hbx, Lib.hid (by simp)⟩
  case round =>
    obtain ⟨k, hk, rfl, hown, hb, HK⟩ := hrel
    clear hbx
    have hsz := hb.bel.size
    by_cases hlt : k < v.l.sgs.length
    · have hki : (k : Int) < (v.l.sgs.length : Int) := by omega
      obtain ⟨b, off, hA, lb, hqo, y0, y1, y2, y3⟩ := hb.rd.r4.elG hlt
      have hba := hb.alloc (.cells #[.string (bs v.l.sgs[k].name), .int .i64 v.l.sgs[k].pos.el, .int .i64 v.l.sgs[k].pos.sd, .int .i64 v.l.sgs[k].ovl] 41)
      have hown1 := hown.alloc (.cells #[.string (bs v.l.sgs[k].name), .int .i64 v.l.sgs[k].pos.el, .int .i64 v.l.sgs[k].pos.sd, .int .i64 v.l.sgs[k].ovl] 41)
      have hsb : Blk (wr.alloc (.cells #[.string (bs v.l.sgs[k].name), .int .i64 v.l.sgs[k].pos.el, .int .i64 v.l.sgs[k].pos.sd, .int .i64 v.l.sgs[k].ovl] 41)) wr.heap.size 41 #[.string (bs v.l.sgs[k].name), .int .i64 v.l.sgs[k].pos.el, .int .i64 v.l.sgs[k].pos.sd, .int .i64 v.l.sgs[k].ovl] := Blk.new _ _ _ _ rfl
      have x0 := hba.x0
      have x1 := hba.x1
      have x2 := hba.x2
      have x3 := hba.x3
      have x4 := hba.x4
      have x5 := hba.x5
      have HNO := Lib.hid fun h => HS1.out (all_no2 (p := sgnB v.l) hlt h)
      have HYE := Lib.hid fun h => all_take2 (p := sgnB v.l) hlt HK.out h
      have HPT := Lib.hid (pos_take hlt)
      have hex := fun (c : Bool) (h : exB v.l v.l.sgs[k].pos = c) => rexC v rfl h
      unfold lvA at hex
      have HEX := Lib.hid hex
      have hA4 := hA
      have hlk : ((v.l.sgs.take k).map Sgn.pos).length ≤ 100000 := by simp; omega
      rw [hA] at x4 HEX ⊢
      clear hex
      obtain ⟨c, hc⟩ : ∃ c, exB v.l v.l.sgs[k].pos = c := ⟨_, rfl⟩
      have HC := Lib.hid (HEX.out c hc)
      have HA4 := Lib.hid hA4
      clear HEX hA hA4
      cases c with
      | false =>
        have HF := Lib.hid (HNO.out (sgn_no1 hc))
        clear hc HNO HYE HK HPT hqo hown1 hown
        generalize v.l.sgs[k] = q at *
        go_wp2_with fail
        refine (HC.out _ hba.rd).mono ?_
        rintro e w5 ⟨rfl, hq5⟩
        have hb5 := hba.now hq5
        have hs5 := hsb.now hq5
        clear x0 x1 x2 x3 x4 x5
        have z2 := hs5.cell 2
        have z3 := hs5.cell 3
        simp only [List.getElem?_toArray, List.getElem?_cons_zero, List.getElem?_cons_succ] at z2 z3
        go_wp2_with fail
        go_ret
        exact ⟨ret_iL HF.out.symm, hb5.bel⟩
      | true =>
        by_cases h1 : v.l.sgs[k].ovl < 0 ∨ 1000000 < v.l.sgs[k].ovl
        · have HF := Lib.hid (HNO.out (sgn_no2 h1))
          clear hc HNO HYE HK HPT hqo hown1 hown
          generalize v.l.sgs[k] = q at *
          go_wp2_with fail
          refine (HC.out _ hba.rd).mono ?_
          rintro e w5 ⟨rfl, hq5⟩
          have hb5 := hba.now hq5
          have hs5 := hsb.now hq5
          clear x0 x1 x2 x3 x4 x5
          have z3 : w5.cell? ⟨wr.heap.size, 3, none⟩ = some (.int .i64 q.ovl) := hs5.cell 3
          rcases h1 with h1 | h1
          · go_wp2_with fail
            go_ret
            exact ⟨ret_iL HF.out.symm, hb5.bel⟩
          · have h0 : ¬ q.ovl < 0 := by omega
            go_wp2_with fail
            go_ret
            exact ⟨ret_iL HF.out.symm, hb5.bel⟩
        · have h2 : ¬ v.l.sgs[k].ovl < 0 := by omega
          have h3 : ¬ 1000000 < v.l.sgs[k].ovl := by omega
          have HN := Lib.hid (HYE.out (sgn_yes hc h2 h3))
          have hqp := hqo.2.1
          clear hc HNO HYE HK hqo h1
          generalize v.l.sgs[k] = q at *
          go_wp2_with fail
          refine (HC.out _ hba.rd).mono ?_
          rintro e w5 ⟨rfl, hq5⟩
          have hb5 := hba.now hq5
          have hs5 := hsb.now hq5
          have hown5 := hown1.now hq5
          clear x0 x1 x2 x3 x4 x5
          have z1 : w5.cell? ⟨wr.heap.size, 1, none⟩ = some (.int .i64 q.pos.el) := hs5.cell 1
          have z2 : w5.cell? ⟨wr.heap.size, 2, none⟩ = some (.int .i64 q.pos.sd) := hs5.cell 2
          have z3 : w5.cell? ⟨wr.heap.size, 3, none⟩ = some (.int .i64 q.ovl) := hs5.cell 3
          have hsz5 := hb5.bel.size
          generalize hM : (v.l.sgs.take k).map Sgn.pos = ms at *
          have HM := Lib.hid hM
          clear hM
          go_wp2_with (at_builtin; go_loud (refine wpList_append_r (c := cEnd) _ rfl _ _ 108 rfl w.heap.size 37 i0 _ 16 Tryz.underlying108 hi0 hz0 hz1 hz2 rfl (by decide) _ ms 0 rfl hown5 [_, _] q.pos ⟨rfl, hqp⟩ (by simp [Value.oneCell']) _ (by simp [Act.eval]) (by omega) (by omega) (by omega) ?_); intro v' w6 hown6 hf6 hs6)
          go_roundw
          case rel => exact ⟨k + 1, by omega, by go_num, by rw [HPT.out]; exact hown6, ⟨hf6.keeps (Nat.le_refl _) hsz5 hb5.bel, hf6.blk hb5.blk (by decide), hr.now (hf6.keeps (Nat.le_refl _) hsz5 hb5.bel)⟩, HN⟩
          case measure => simp [intOf]; omega
    · have HALL := Lib.hid (all_end2 hlt HK.out)
      rw [List.take_of_length_le (by omega)] at hown
      obtain ⟨ps, hps⟩ : ∃ ps, v.l.sgs.map Sgn.pos = ps := ⟨_, rfl⟩
      have hpl : ps.length = v.l.sgs.length := by rw [← hps, List.length_map]
      rw [hps] at hown
      have HPS := Lib.hid hps
      have HPL := Lib.hid hpl
      have hp1000 : ps.length ≤ 1000 := by omega
      obtain ⟨A', c', rfl, hcap, hrd⟩ := hown.reads2
      have HEND := Lib.hid (ends_any ps A' c' wr hrd hcap.1)
      clear hown HK hk hps hpl
      cases hd : decide ps.Nodup with
      | false =>
        rw [hd] at HEND
        have HF := Lib.hid (HS8.out HALL.out (by rw [HPS.out]; exact of_decide_eq_false hd))
        clear hd
        go_wp2_with fail
        refine HEND.out.mono ?_
        rintro e w5 ⟨rfl, hq5⟩
        have hb5 := hb.now hq5.below
        go_wp2_with fail
        go_ret
        exact ⟨ret_iL HF.out.symm, hb5.bel⟩
      | true =>
        rw [hd] at HEND
        have HND : Hid ((v.l.sgs.map Sgn.pos).Nodup) := Lib.hid (by rw [HPS.out]; exact of_decide_eq_true hd)
        clear hd
        go_wp2_with fail
        refine HEND.out.mono ?_
        rintro e w5 ⟨rfl, hq5⟩
        have hb5 := hb.now hq5.below
        have hrd5 := hrd.now hq5.below
        clear hb hrd hq5
        go_wp2_with fail
        clear hlt
        go_loopw [42] (fun n wq => ∃ k : Nat, k ≤ ps.length ∧ n = .int .i64 k ∧ Bx w wq v ∧ RdS cEnd wq (Lt wq) A' ps ∧ Hid ((v.l.sgs.take k).all (fun s => safeB v.l s.pos) = true)) (fun n _ => ps.length - (intOf n).toNat)
        case atStart => exact ⟨0, Nat.zero_le _, rfl, hb5, hrd5, Lib.hid (by simp)⟩
        case round =>
          clear hb5 hrd5
          obtain ⟨k, hk, rfl, hb, hrd, HK⟩ := hrel
          by_cases hlt : k < ps.length
          · have hki : (k : Int) < (ps.length : Int) := by omega
            have hls : k < v.l.sgs.length := by have := HPL.out; omega
            have hpk : ps[k] = v.l.sgs[k].pos := by
              have h := HPS.out
              subst h
              simp
            obtain ⟨b, off, hA, lb, hxo, y0, y1⟩ := hrd.elD hlt
            rw [hA] at hrd ⊢
            have hxe : exB v.l ps[k] = true := by
              have h := HALL.out
              rw [List.all_eq_true] at h
              rw [hpk]
              exact (sgnB_iff (h _ (List.getElem_mem hls))).1
            obtain ⟨⟨g1, g2⟩, _⟩ := exB_iff hxe
            have HNO := Lib.hid fun h => HS14.out HALL.out HND.out (all_no2 (p := fun s => safeB v.l s.pos) hls h)
            have HYE := Lib.hid fun h => all_take2 (p := fun s => safeB v.l s.pos) hls HK.out h
            rw [← hpk] at HNO HYE
            have hba := hb.alloc (.cells #[.int .i64 ps[k].el, .int .i64 ps[k].sd] 37)
            have hrda := hrd.now ((Below.refl wr.heap.size wr).alloc (Nat.le_refl _) (.cells #[.int .i64 ps[k].el, .int .i64 ps[k].sd] 37))
            have hxl : Blk (wr.alloc (.cells #[.int .i64 ps[k].el, .int .i64 ps[k].sd] 37)) wr.heap.size 37 #[.int .i64 ps[k].el, .int .i64 ps[k].sd] := Blk.new _ _ _ _ rfl
            have x0 := hba.x0
            have x1 := hba.x1
            have x2 := hba.x2
            have x3 := hba.x3
            have x4 := hba.x4
            have x5 := hba.x5
            obtain ⟨o, ho⟩ : ∃ o, joinedF v.l.jts ps[k] = o := ⟨_, rfl⟩
            have hjo := fun W h => rjoined_any v ps[k] W h o ho
            unfold lvA at hjo
            have HJO := Lib.hid hjo
            clear hjo
            cases o with
            | none =>
              have HF := Lib.hid (HNO.out (rsafe_none ho))
              clear ho hpk hxe hxo HNO HYE HK g1 g2 hA
              generalize ps[k] = x at *
              go_wp2_with fail
              refine (HJO.out _ hba.rd).mono ?_
              rintro e w7 ⟨rfl, hq7⟩
              have hb8 := (hba.now hq7).alloc (.cells #[.int .i64 (endZ none).el, .int .i64 (endZ none).sd] 37)
              clear x0 x1 x2 x3 x4 x5
              have hbe := hb8.bel
              clear hba hb8 hxl hrda hb hrd
              go_wp2_with fail
              (refine wp_region_quiet_lit (by kernel_rfl) (by kernel_rfl) ?_; (repeat (any_goals (first | go_big_quiet_step (fail) | quiet_step (fail) | (refine wpQuiet_step (fun K hK => ?_); go_simp; split <;> (refine hK _ ?_; clear hK K))))); all_goals (refine wpQuiet_nil ?_; intro _ hw'; obtain ⟨nq, hw''⟩ := hw'; subst hw''))
              all_goals (go_wp2_with fail)
              all_goals (go_ret; exact ⟨ret_iL HF.out.symm, by (repeat' (first | (with_reducible exact Below.refl _ _) | (with_reducible assumption) | (with_reducible refine Below.drewN ?_ _) | (with_reducible refine Below.drew ?_) | (with_reducible refine Below.alloc ?_ ?_ _) | (with_reducible refine Below.setCell ?_ ?_ _) | (with_reducible exact Nat.le_refl _) | (with_reducible exact Below.size (by assumption)) | omega | (simp only [World.size_alloc, World.size_setCell, World.size_drew]; omega) | (simp; done) | (simp; omega)))⟩)
            | some f =>
              have hfe := HJ.out _ _ ho
              obtain ⟨⟨f1, f2⟩, _⟩ := exB_iff hfe
              have hsf := rsafe_some ho
              obtain ⟨⟨fe, fs⟩, hff⟩ : ∃ y, f = y := ⟨_, rfl⟩
              subst hff
              obtain ⟨⟨xe, xs⟩, hxx⟩ : ∃ y, ps[k] = y := ⟨_, rfl⟩
              rw [hxx] at g1 g2 hsf
              simp only at g1 g2 f1 f2 hsf
              obtain ⟨ka, rfl⟩ := Int.eq_ofNat_of_zero_le f1
              obtain ⟨ke, rfl⟩ := Int.eq_ofNat_of_zero_le g1
              have ha : ka < v.l.els.length := by omega
              have hk2 : ke < v.l.els.length := by omega
              have hai : (ka : Int) < (v.l.els.length : Int) := by omega
              have hei : (ke : Int) < (v.l.els.length : Int) := by omega
              rw [secAt_in ha, secAt_in hk2] at hsf
              rw [hxx] at HNO HYE HJO y0 y1 hba hrda hxl x0 x1 x2 x3 x4 x5
              clear ho hpk hxe hxo HK hA hfe hxx g1 g2 f1 f2
              go_wp2_with fail
              refine (HJO.out _ hba.rd).mono ?_
              rintro e w7 ⟨rfl, hq7⟩
              have hb8 := (hba.now hq7).alloc (.cells #[.int .i64 (ka : Int), .int .i64 fs] 37)
              have hr8 := (hrda.now hq7).now ((Below.refl w7.heap.size w7).alloc (Nat.le_refl _) (.cells #[.int .i64 (ka : Int), .int .i64 fs] 37))
              have hx8 := (hxl.now hq7).alloc (.cells #[.int .i64 (ka : Int), .int .i64 fs] 37)
              have hf8 : Blk (w7.alloc (.cells #[.int .i64 (ka : Int), .int .i64 fs] 37)) w7.heap.size 37 #[.int .i64 (ka : Int), .int .i64 fs] := Blk.new _ _ _ _ rfl
              obtain ⟨b2, o2, hA2, _, _, _, _, _, _, _, _, ya⟩ := hb8.rd.r2.elE ha
              obtain ⟨b3, o3, hA3, _, _, _, _, _, _, _, _, ye⟩ := hb8.rd.r2.elE hk2
              rw [hA2] at hA3
              simp only [Option.some.injEq, Addr.mk.injEq, and_true] at hA3
              obtain ⟨rfl, rfl⟩ := hA3
              clear x0 x1 x2 x3 x4 x5
              have x2 := hb8.x2
              have z0 := hx8.cell 0
              have q0 := hf8.cell 0
              simp only [List.getElem?_toArray, List.getElem?_cons_zero, List.getElem?_cons_succ] at z0 q0
              rw [hA2] at x2
              have hbe := hb8.bel
              have HB8 := Lib.hid hb8
              have HR8 := Lib.hid hr8
              have HSF := Lib.hid hsf
              simp only [endZ, Option.getD_some, Option.isSome_some]
              clear hb8 hr8 hx8 hf8 hba hrda hxl hb hrd hA2 hsf
              by_cases hsec : v.l.els[ka].sec = v.l.els[ke].sec
              · have HF := Lib.hid (HNO.out (by rw [HSF.out]; simp [hsec]))
                have hqb : (v.l.els[ka].sec == v.l.els[ke].sec) = true := by simp [hsec]
                clear hsec HNO HYE
                generalize v.l.els[ka].sec = sa at *
                generalize v.l.els[ke].sec = se at *
                go_wp2_with fail
                (refine wp_region_quiet_lit (by kernel_rfl) (by kernel_rfl) ?_; (repeat (any_goals (first | go_big_quiet_step (fail) | quiet_step (fail) | (refine wpQuiet_step (fun K hK => ?_); go_simp; split <;> (refine hK _ ?_; clear hK K))))); all_goals (refine wpQuiet_nil ?_; intro _ hw'; obtain ⟨nq, hw''⟩ := hw'; subst hw''))
                all_goals (go_wp2_with fail)
                all_goals (go_ret; exact ⟨ret_iL HF.out.symm, by (repeat' (first | (with_reducible exact Below.refl _ _) | (with_reducible assumption) | (with_reducible refine Below.drewN ?_ _) | (with_reducible refine Below.drew ?_) | (with_reducible refine Below.alloc ?_ ?_ _) | (with_reducible refine Below.setCell ?_ ?_ _) | (with_reducible exact Nat.le_refl _) | (with_reducible exact Below.size (by assumption)) | omega | (simp only [World.size_alloc, World.size_setCell, World.size_drew]; omega) | (simp; done) | (simp; omega)))⟩)
              · have HN := Lib.hid (HYE.out (by rw [HSF.out]; simp [hsec]))
                have hqb : (v.l.els[ka].sec == v.l.els[ke].sec) = false := by simp [hsec]
                clear hsec HNO HYE
                generalize v.l.els[ka].sec = sa at *
                generalize v.l.els[ke].sec = se at *
                go_wp2_with fail
                (refine wp_region_quiet_lit (by kernel_rfl) (by kernel_rfl) ?_; (repeat (any_goals (first | go_big_quiet_step (fail) | quiet_step (fail) | (refine wpQuiet_step (fun K hK => ?_); go_simp; split <;> (refine hK _ ?_; clear hK K))))); all_goals (refine wpQuiet_nil ?_; intro _ hw'; obtain ⟨nq, hw''⟩ := hw'; subst hw''))
                all_goals (go_wp2_with fail)
                all_goals (
                  go_roundw
                  case rel => exact ⟨k + 1, by omega, by go_num, HB8.out.now (Below.drewN (Below.refl _ _) _), HR8.out.now (Below.drewN (Below.refl _ _) _), HN⟩
                  case measure => simp [intOf]; omega)
          · have HF := Lib.hid (HS0.out HALL.out HND.out (all_end2 (by have := HPL.out; omega) HK.out))
            go_wp2_with fail
            go_ret
            exact ⟨ret_iL HF.out.symm, hb.bel⟩
end Go.Proofs.YtopoknocfoiiaaaGreatDoor
namespace Go.Proofs.YtopoknocfoiiaaaGreatDoor
set_option linter.unusedVariables false
set_option linter.unusedSimpArgs false
open Go.RowKit
attribute [local go_sem] bs_size bs_get bs_append bs_extract bs_toList
attribute [-go_sem] run_equalIn_agg
theorem rblC_1 {l : Lay} (h : l.bls.all (blsB l) = false) : blC l = 1 := by unfold blC; rw [if_pos h]
theorem rblC_8 {l : Lay} (h : l.bls.all (blsB l) = true) (h2 : ¬ (l.bls.map Bls.id).Nodup) : blC l = 8 := by unfold blC; rw [if_neg (by rw [h]; simp), if_pos (decide_eq_false h2)]
theorem rblC_0 {l : Lay} (h : l.bls.all (blsB l) = true) (h2 : (l.bls.map Bls.id).Nodup) : blC l = 0 := by unfold blC; rw [if_neg (by rw [h]; simp), if_neg (by rw [decide_eq_true h2]; simp)]
theorem id_take {l : List Bls} {k : Nat} (h : k < l.length) : (l.take (k + 1)).map Bls.id = (l.take k).map Bls.id ++ [l[k].id] := by rw [List.take_succ_eq_append_getElem h, List.map_append]; rfl
theorem lenAt_in {l : Lay} {k : Nat} (h : k < l.els.length) : lenAt l (k : Int) = l.els[k].len := by
  unfold lenAt
  rw [Int.toNat_natCast, List.getElem?_eq_getElem h]
  rfl
theorem bls_iff {l : Lay} {b : Bls} : blsB l b = true ↔ (1 ≤ b.id ∧ b.id ≤ 1073741824) ∧ (0 ≤ b.el ∧ b.el < l.els.length) ∧ 0 ≤ b.off ∧ b.off ≤ lenAt l b.el := by
  unfold blsB
  simp [inB_iff]
theorem bls_no {l : Lay} {b : Bls} (h : ¬ ((1 ≤ b.id ∧ b.id ≤ 1073741824) ∧ (0 ≤ b.el ∧ b.el < l.els.length) ∧ 0 ≤ b.off ∧ b.off ≤ lenAt l b.el)) : blsB l b = false := by
  rw [Bool.eq_false_iff]
  exact fun h2 => h (bls_iff.1 h2)
set_option maxRecDepth 100000 in
set_option maxHeartbeats 16000000 in
theorem rbalises_any (v : LV) (w : World) (hr : LvR w v) (hm5 : v.l.bls.length ≤ 1000) : Calls Tryz.prog 43 #[lvA v] w fun e w' => e = .returned (.int .i64 (blC v.l)) ∧ Below w.heap.size w w' := by
  obtain ⟨i0, hi0, hz0, hz1, hz2⟩ := info_parts infoI
  have hbx := Bx.new hr
  have hn2 := hr.n2.1
  unfold maxLen at hn2
  have HS1 := Lib.hid fun h => rblC_1 (l := v.l) h
  have HS8 := Lib.hid fun h h2 => rblC_8 (l := v.l) h h2
  have HS0 := Lib.hid fun h h2 => rblC_0 (l := v.l) h h2
  unfold lvA
  go_enter Tryz.func43, Tryz.ntmps43
  go_wp2_with fail
  go_loopw [3, 9] (fun s n wr => ∃ k : Nat, k ≤ v.l.bls.length ∧ n = .int .i64 k ∧ OwnR cI wr w.heap.size 3 s ((v.l.bls.take k).map Bls.id) 0 ∧ Bx w wr v ∧ Hid ((v.l.bls.take k).all (blsB v.l) = true)) (fun _ n _ => v.l.bls.length - (intOf n).toNat)
  case atStart => exact ⟨0, Nat.zero_le _, rfl, OwnR.nil _ _ _ _ (Nat.zero_le _), hbx, Lib.hid (by simp)⟩
  case round =>
    obtain ⟨k, hk, rfl, hown, hb, HK⟩ := hrel
    clear hbx
    have hsz := hb.bel.size
    by_cases hlt : k < v.l.bls.length
    · have hki : (k : Int) < (v.l.bls.length : Int) := by omega
      obtain ⟨b, off, hA, lb, hqo, y0, y1, y2⟩ := hb.rd.r5.elB hlt
      have hba := hb.alloc (.cells #[.int .i64 v.l.bls[k].id, .int .i64 v.l.bls[k].el, .int .i64 v.l.bls[k].off] 51)
      have hown1 := hown.alloc (.cells #[.int .i64 v.l.bls[k].id, .int .i64 v.l.bls[k].el, .int .i64 v.l.bls[k].off] 51)
      have hbe := hba.bel
      have x2 := hba.x2
      have HNO := Lib.hid fun h => HS1.out (all_no2 (p := blsB v.l) hlt (bls_no h))
      have HYE := Lib.hid fun h => all_take2 (p := blsB v.l) hlt HK.out (bls_iff.2 h)
      have HPT := Lib.hid (id_take hlt)
      have hlk : ((v.l.bls.take k).map Bls.id).length ≤ 100000 := by simp; omega
      rw [hA]
      have hqi := hqo.1
      clear hqo HK
      have HBA := Lib.hid hba
      have HOW := Lib.hid hown1
      clear hba hown1 hown hb hA
      generalize v.l.bls[k] = q at *
      by_cases t0 : q.id < 1
      · have HF := Lib.hid (HNO.out (by omega))
        have d0 : decide (q.id < 1) = true := by simp; omega
        clear HNO HYE HPT HBA HOW t0
        go_wp2_with fail
        (refine wp_region_quiet_lit (by kernel_rfl) (by kernel_rfl) ?_; (repeat (any_goals (first | go_big_quiet_step (fail) | quiet_step (fail) | (refine wpQuiet_step (fun K hK => ?_); go_simp; split <;> (refine hK _ ?_; clear hK K))))); all_goals (refine wpQuiet_nil ?_; intro _ hw'; obtain ⟨nq, hw''⟩ := hw'; subst hw''))
        all_goals (go_wp2_with fail)
        all_goals (go_ret; exact ⟨ret_iL HF.out.symm, by (repeat' (first | (with_reducible exact Below.refl _ _) | (with_reducible assumption) | (with_reducible refine Below.drewN ?_ _) | (with_reducible refine Below.drew ?_) | (with_reducible refine Below.alloc ?_ ?_ _) | (with_reducible refine Below.setCell ?_ ?_ _) | (with_reducible exact Nat.le_refl _) | (with_reducible exact Below.size (by assumption)) | omega | (simp only [World.size_alloc, World.size_setCell, World.size_drew]; omega) | (simp; done) | (simp; omega)))⟩)
      have d0 : decide (q.id < 1) = false := by simp; omega
      by_cases t1 : 1073741824 < q.id
      · have HF := Lib.hid (HNO.out (by omega))
        have d1 : decide (1073741824 < q.id) = true := by simp; omega
        clear HNO HYE HPT HBA HOW t1
        clear t0
        go_wp2_with fail
        (refine wp_region_quiet_lit (by kernel_rfl) (by kernel_rfl) ?_; (repeat (any_goals (first | go_big_quiet_step (fail) | quiet_step (fail) | (refine wpQuiet_step (fun K hK => ?_); go_simp; split <;> (refine hK _ ?_; clear hK K))))); all_goals (refine wpQuiet_nil ?_; intro _ hw'; obtain ⟨nq, hw''⟩ := hw'; subst hw''))
        all_goals (go_wp2_with fail)
        all_goals (go_ret; exact ⟨ret_iL HF.out.symm, by (repeat' (first | (with_reducible exact Below.refl _ _) | (with_reducible assumption) | (with_reducible refine Below.drewN ?_ _) | (with_reducible refine Below.drew ?_) | (with_reducible refine Below.alloc ?_ ?_ _) | (with_reducible refine Below.setCell ?_ ?_ _) | (with_reducible exact Nat.le_refl _) | (with_reducible exact Below.size (by assumption)) | omega | (simp only [World.size_alloc, World.size_setCell, World.size_drew]; omega) | (simp; done) | (simp; omega)))⟩)
      have d1 : decide (1073741824 < q.id) = false := by simp; omega
      by_cases t2 : q.el < 0
      · have HF := Lib.hid (HNO.out (by omega))
        have d2 : decide (q.el < 0) = true := by simp; omega
        clear HNO HYE HPT HBA HOW t2
        clear t0
        clear t1
        go_wp2_with fail
        (refine wp_region_quiet_lit (by kernel_rfl) (by kernel_rfl) ?_; (repeat (any_goals (first | go_big_quiet_step (fail) | quiet_step (fail) | (refine wpQuiet_step (fun K hK => ?_); go_simp; split <;> (refine hK _ ?_; clear hK K))))); all_goals (refine wpQuiet_nil ?_; intro _ hw'; obtain ⟨nq, hw''⟩ := hw'; subst hw''))
        all_goals (go_wp2_with fail)
        all_goals (go_ret; exact ⟨ret_iL HF.out.symm, by (repeat' (first | (with_reducible exact Below.refl _ _) | (with_reducible assumption) | (with_reducible refine Below.drewN ?_ _) | (with_reducible refine Below.drew ?_) | (with_reducible refine Below.alloc ?_ ?_ _) | (with_reducible refine Below.setCell ?_ ?_ _) | (with_reducible exact Nat.le_refl _) | (with_reducible exact Below.size (by assumption)) | omega | (simp only [World.size_alloc, World.size_setCell, World.size_drew]; omega) | (simp; done) | (simp; omega)))⟩)
      have d2 : decide (q.el < 0) = false := by simp; omega
      by_cases t3 : (v.l.els.length : Int) ≤ q.el
      · have HF := Lib.hid (HNO.out (by omega))
        have d3 : decide ((v.l.els.length : Int) ≤ q.el) = true := by simp; omega
        clear HNO HYE HPT HBA HOW t3
        clear t0
        clear t1
        clear t2
        go_wp2_with fail
        (refine wp_region_quiet_lit (by kernel_rfl) (by kernel_rfl) ?_; (repeat (any_goals (first | go_big_quiet_step (fail) | quiet_step (fail) | (refine wpQuiet_step (fun K hK => ?_); go_simp; split <;> (refine hK _ ?_; clear hK K))))); all_goals (refine wpQuiet_nil ?_; intro _ hw'; obtain ⟨nq, hw''⟩ := hw'; subst hw''))
        all_goals (go_wp2_with fail)
        all_goals (go_ret; exact ⟨ret_iL HF.out.symm, by (repeat' (first | (with_reducible exact Below.refl _ _) | (with_reducible assumption) | (with_reducible refine Below.drewN ?_ _) | (with_reducible refine Below.drew ?_) | (with_reducible refine Below.alloc ?_ ?_ _) | (with_reducible refine Below.setCell ?_ ?_ _) | (with_reducible exact Nat.le_refl _) | (with_reducible exact Below.size (by assumption)) | omega | (simp only [World.size_alloc, World.size_setCell, World.size_drew]; omega) | (simp; done) | (simp; omega)))⟩)
      have d3 : decide ((v.l.els.length : Int) ≤ q.el) = false := by simp; omega
      by_cases t4 : q.off < 0
      · have HF := Lib.hid (HNO.out (by omega))
        have d4 : decide (q.off < 0) = true := by simp; omega
        clear HNO HYE HPT HBA HOW t4
        clear t0
        clear t1
        clear t2
        clear t3
        go_wp2_with fail
        (refine wp_region_quiet_lit (by kernel_rfl) (by kernel_rfl) ?_; (repeat (any_goals (first | go_big_quiet_step (fail) | quiet_step (fail) | (refine wpQuiet_step (fun K hK => ?_); go_simp; split <;> (refine hK _ ?_; clear hK K))))); all_goals (refine wpQuiet_nil ?_; intro _ hw'; obtain ⟨nq, hw''⟩ := hw'; subst hw''))
        all_goals (go_wp2_with fail)
        all_goals (go_ret; exact ⟨ret_iL HF.out.symm, by (repeat' (first | (with_reducible exact Below.refl _ _) | (with_reducible assumption) | (with_reducible refine Below.drewN ?_ _) | (with_reducible refine Below.drew ?_) | (with_reducible refine Below.alloc ?_ ?_ _) | (with_reducible refine Below.setCell ?_ ?_ _) | (with_reducible exact Nat.le_refl _) | (with_reducible exact Below.size (by assumption)) | omega | (simp only [World.size_alloc, World.size_setCell, World.size_drew]; omega) | (simp; done) | (simp; omega)))⟩)
      have d4 : decide (q.off < 0) = false := by simp; omega
      obtain ⟨ke, hke⟩ := Int.eq_ofNat_of_zero_le (show 0 ≤ q.el by omega)
      have hk2 : ke < v.l.els.length := by omega
      have hei : (ke : Int) < (v.l.els.length : Int) := by omega
      obtain ⟨b2, o2, hA2, _, _, _, _, ye, _⟩ := HBA.out.rd.r2.elE hk2
      have hla := lenAt_in hk2
      rw [← hke] at hla
      rw [hla] at HNO HYE
      rw [hA2] at x2
      have HA2 := Lib.hid hA2
      by_cases t5 : v.l.els[ke].len < q.off
      · have HF := Lib.hid (HNO.out (by omega))
        have d5 : decide (v.l.els[ke].len < q.off) = true := by simp; omega
        clear HNO HYE HPT t0 t1 t2 t3 t4 t5 hla HOW
        obtain ⟨qi, qe, qf⟩ := q
        simp only at *
        subst hke
        rw [hA2] at *
        clear hA2 HBA
        generalize v.l.els[ke].len = le at *
        go_wp2_with fail
        (refine wp_region_quiet_lit (by kernel_rfl) (by kernel_rfl) ?_; (repeat (any_goals (first | go_big_quiet_step (fail) | quiet_step (fail) | (refine wpQuiet_step (fun K hK => ?_); go_simp; split <;> (refine hK _ ?_; clear hK K))))); all_goals (refine wpQuiet_nil ?_; intro _ hw'; obtain ⟨nq, hw''⟩ := hw'; subst hw''))
        all_goals (go_wp2_with fail)
        all_goals (go_ret; exact ⟨ret_iL HF.out.symm, by (repeat' (first | (with_reducible exact Below.refl _ _) | (with_reducible assumption) | (with_reducible refine Below.drewN ?_ _) | (with_reducible refine Below.drew ?_) | (with_reducible refine Below.alloc ?_ ?_ _) | (with_reducible refine Below.setCell ?_ ?_ _) | (with_reducible exact Nat.le_refl _) | (with_reducible exact Below.size (by assumption)) | omega | (simp only [World.size_alloc, World.size_setCell, World.size_drew]; omega) | (simp; done) | (simp; omega)))⟩)
      have d5 : decide (v.l.els[ke].len < q.off) = false := by simp; omega
      have HN := Lib.hid (HYE.out (by omega))
      clear HNO HYE t0 t1 t2 t3 t4 t5 hla
      obtain ⟨qi, qe, qf⟩ := q
      simp only at *
      subst hke
      rw [hA2]
      clear hA2
      generalize v.l.els[ke].len = le at *
      generalize hM : (v.l.bls.take k).map Bls.id = ms at *
      have HM := Lib.hid hM
      clear hM
      go_wp2_with fail
      (refine wp_region_quiet_lit (by kernel_rfl) (by kernel_rfl) ?_; (repeat (any_goals (first | go_big_quiet_step (fail) | quiet_step (fail) | (refine wpQuiet_step (fun K hK => ?_); go_simp; split <;> (refine hK _ ?_; clear hK K))))); all_goals (refine wpQuiet_nil ?_; intro _ hw'; obtain ⟨nq, hw''⟩ := hw'; subst hw''))
      all_goals (
        have hb2 := HBA.out.now (Below.drewN (Below.refl _ _) nq)
        have hown2 := HOW.out.now (Below.drewN (Below.refl _ _) nq)
        have hsz2 := hb2.bel.size
        go_wp2_with (at_builtin; go_loud (refine wpList_append_r (c := cI) _ rfl _ _ 68 rfl w.heap.size 3 i0 _ 8 Tryz.underlying68 hi0 hz0 hz1 hz2 rfl (by decide) _ ms 0 rfl hown2 [_] qi ⟨rfl, hqi⟩ (by simp [Value.oneCell']) _ (by simp [Act.eval]) (by omega) (by omega) (by omega) ?_); intro v' w6 hown6 hf6 hs6)
        go_roundw
        case rel => exact ⟨k + 1, by omega, by go_num, by rw [HPT.out]; exact hown6, ⟨hf6.keeps (Nat.le_refl _) hsz2 hb2.bel, hf6.blk hb2.blk (by decide), hr.now (hf6.keeps (Nat.le_refl _) hsz2 hb2.bel)⟩, HN⟩
        case measure => simp [intOf]; omega)
    · have HALL := Lib.hid (all_end2 hlt HK.out)
      rw [List.take_of_length_le (by omega)] at hown
      obtain ⟨ps, hps⟩ : ∃ ps, v.l.bls.map Bls.id = ps := ⟨_, rfl⟩
      rw [hps] at hown
      have HPS := Lib.hid hps
      obtain ⟨A', c', rfl, hcap, hrd⟩ := hown.reads2
      have HEND := Lib.hid (numbers_any ps A' c' wr hrd hcap.1)
      clear hown HK hk hps
      cases hd : decide ps.Nodup with
      | false =>
        rw [hd] at HEND
        have HF := Lib.hid (HS8.out HALL.out (by rw [HPS.out]; exact of_decide_eq_false hd))
        clear hd
        go_wp2_with fail
        refine HEND.out.mono ?_
        rintro e w5 ⟨rfl, hq5⟩
        have hb5 := hb.now hq5.below
        go_wp2_with fail
        go_ret
        exact ⟨ret_iL HF.out.symm, hb5.bel⟩
      | true =>
        rw [hd] at HEND
        have HF := Lib.hid (HS0.out HALL.out (by rw [HPS.out]; exact of_decide_eq_true hd))
        clear hd
        go_wp2_with fail
        refine HEND.out.mono ?_
        rintro e w5 ⟨rfl, hq5⟩
        have hb5 := hb.now hq5.below
        go_wp2_with fail
        go_ret
        exact ⟨ret_iL HF.out.symm, hb5.bel⟩
end Go.Proofs.YtopoknocfoiiaaaGreatDoor
namespace Go.Proofs.YtopoknocfoiiaaaGreatDoor
set_option linter.unusedVariables false
set_option linter.unusedSimpArgs false
open Go.RowKit
attribute [local go_sem] bs_size bs_get bs_append bs_extract bs_toList
attribute [-go_sem] run_equalIn_agg
section
variable {P : Program} {α : Type} {c : Cod α}
/-- Some data more, that lie in a block of their own, are appended. -/
theorem wpList_append_rs (w : World) {ops : Array Oper} {rest : List Oper} {o : Oper} {a : Act} {Q : Exit → Act → World → Prop} (hgd : o.guard = none) (s x : Operand) (t : TypeId)
    (ho : o.op = .call { callee := .builtin .append, args := #[s, x], argTypes := #[t, t] })
    (base : Nat) (e : TypeId) (i : TypeInfo) (z : Value) (bytes : Nat) (ht : P.underlying t = some (.slice e)) (hi : P.info? e = some i) (hz : i.zero = some z) (hsize : i.size = c.size) (hby : i.bytes = bytes) (hzs : z.cells.size = c.size) (hc : 0 < c.size)
    (v : Value) (l : List α) (B : Nat) (hs : a.eval s = v) (hown : OwnR c w base e v l B) (ys : List Value) (l2 : List α) (hy : RdC c w (Sep w e B) ys l2) (h1 : ∀ u ∈ ys, u.oneCell' = true) (tt : TypeId) (m : Nat)
    (hx : a.eval x = .slice (some ⟨w.heap.size, 0, none⟩) l2.length m) (hlen : l.length + l2.length ≤ 100000) (hbl : bytes ≤ 1000) (hbase : base ≤ w.heap.size)
    (h : ∀ v' w', OwnR c w' base e v' (l ++ l2) B → Frm base e w w' → w.heap.size < w'.heap.size → wpList P ops Q rest (a.put o.dst v') w') : wpList P ops Q (o :: rest) a (w.alloc (.cells ys.toArray tt)) := by
  obtain ⟨xs, hown, hrd, hB⟩ := hown
  have hown' := World.ownsRow.alloc hown (.cells ys.toArray tt)
  have hyl := hy.len
  refine wpList_append_own _ hgd s x t ho base e i z c.size bytes ht hi hz hsize hby hzs hc v l.length xs hs hown' ⟨w.heap.size, 0, none⟩ l2.length m ys hx hyl ?_ h1
    (by unfold maxLen; omega) (Nat.le_trans (Nat.mul_le_mul (show l.length + l2.length ≤ 1000000 by omega) hbl) (by omega)) (by simp; omega) ?_
  · intro j u hj
    have : (⟨w.heap.size, 0, none⟩ : Addr).add j = ⟨w.heap.size, j, none⟩ := by
      unfold Addr.add
      split
      · rename_i h0; subst h0; rfl
      · simp
    rw [this, World.cell?_alloc_at _ _ _ _ rfl]
    simpa using hj
  · intro v' w' h2 h3 _
    have hf := frm_of hown' h3
    have hb0 : Below w.heap.size w (w.alloc (.cells ys.toArray tt)) := (Below.refl _ _).alloc (Nat.le_refl _) _
    have hfr : Frm base e w w' := (Frm.of_below hb0).trans hf
    have hs : ∀ b, Sep w e B b → w'.heap[b]? = w.heap[b]? := fun b hb => by
      have hlt : b < w.heap.size := by have := hb.1; omega
      have ho : w.heap[b]? = some w.heap[b] := Array.getElem?_eq_getElem hlt
      rw [hfr.obj b _ ho fun cs fr hx => hb.2 cs fr (by rw [ho, hx]), ho]
    refine h v' w' ⟨xs ++ ys, by rw [List.length_append]; exact h2, ?_, Nat.le_trans hB hfr.size⟩ hfr (Nat.lt_of_lt_of_le (by simp) hf.size)
    have key : RdC c w (Sep w e B) (xs ++ ys) (l ++ l2) := hrd.app hy
    exact (key.keep fun p hp => cell_same (hs _ hp)).more fun b hb => ⟨hb.1, fun cs fr hx => hb.2 cs fr (by rw [← hs b hb]; exact hx)⟩
end
def elsC (l : Lay) : Int := if elB l = false then 1 else jnC l
theorem els_1 {l : Lay} (h : elB l = false) : elsC l = 1 := by unfold elsC; rw [if_pos h]
theorem els_j {l : Lay} (h : elB l = true) : elsC l = jnC l := by unfold elsC; rw [if_neg (by rw [h]; simp)]
theorem elB_no1 {l : Lay} (h : l.els.all (eltB l) = false) : elB l = false := by unfold elB; rw [h]; rfl
theorem elB_no2 {l : Lay} {i : Nat} (hi : i < l.secs.length) (h : usedB l i = false) : elB l = false := by unfold elB; rw [useB_no hi h]; simp
theorem elB_yes {l : Lay} (h : l.els.all (eltB l) = true) (h2 : ∀ i, i < l.secs.length → usedB l i = true) : elB l = true := by unfold elB; rw [h, useB_iff.2 h2]; rfl
theorem rightC {l : Lay} {x : Elt} {c : Bool} (v : LV) (hv : v.l = l) (h : eltB l x = c) (w : World) (hr : LvR w v) : Calls Tryz.prog 66 #[lvA v, .agg #[.string (bs x.name), .int .i64 x.kind, .int .i64 x.len, .int .i64 x.grd, .int .i64 x.spd, .int .i64 x.slow, .int .i64 x.sec]] w fun e w' => e = .returned (.bool c) ∧ Below w.heap.size w w' := by
  subst hv; subst h; exact right_any v x w hr
set_option maxRecDepth 100000 in
set_option maxHeartbeats 16000000 in
theorem relements_any (v : LV) (w : World) (hr : LvR w v) (hm2 : v.l.els.length ≤ 1000) (hm3 : v.l.jts.length ≤ 1000) : Calls Tryz.prog 41 #[lvA v] w fun e w' => e = .returned (.int .i64 (elsC v.l)) ∧ Below w.heap.size w w' := by
  obtain ⟨i0, hi0, hz0, hz1, hz2⟩ := info_parts infoEnd
  have hbx := Bx.new hr
  have hn1 := hr.n1.1
  unfold maxLen at hn1
  have HE1 := Lib.hid fun h => els_1 (l := v.l) h
  have HEJ := Lib.hid fun h => els_j (l := v.l) h
  have hrt := fun (x : Elt) (c : Bool) (h : eltB v.l x = c) => rightC v rfl h
  have hex := fun (x : End2) (c : Bool) (h : exB v.l x = c) => rexC v rfl h
  have hmm := fun (i : Nat) (hi : i < v.l.secs.length) => rmembers_any v i hi hm2
  unfold lvA at hrt hex hmm
  have HRT := Lib.hid hrt
  have HEX := Lib.hid hex
  have HMM := Lib.hid hmm
  clear hrt hex hmm
  unfold lvA
  go_enter Tryz.func41, Tryz.ntmps41
  go_wp2_with fail
  go_loopw [12] (fun n wr => ∃ k : Nat, k ≤ v.l.els.length ∧ n = .int .i64 k ∧ Bx w wr v ∧ Hid ((v.l.els.take k).all (eltB v.l) = true)) (fun n _ => v.l.els.length - (intOf n).toNat)
  case atStart => exact ⟨0, Nat.zero_le _, rfl, hbx, Lib.hid (by simp)⟩
  case round =>
    obtain ⟨k, hk, rfl, hb, HK⟩ := hrel
    clear hbx
    by_cases hlt : k < v.l.els.length
    · have hki : (k : Int) < (v.l.els.length : Int) := by omega
      obtain ⟨b, off, hA, lb, hqo, y0, y1, y2, y3, y4, y5, y6⟩ := hb.rd.r2.elE hlt
      have hba := hb.alloc (.cells #[.string (bs v.l.els[k].name), .int .i64 v.l.els[k].kind, .int .i64 v.l.els[k].len, .int .i64 v.l.els[k].grd, .int .i64 v.l.els[k].spd, .int .i64 v.l.els[k].slow, .int .i64 v.l.els[k].sec] 35)
      have x0 := hba.x0
      have x1 := hba.x1
      have x2 := hba.x2
      have x3 := hba.x3
      have x4 := hba.x4
      have x5 := hba.x5
      obtain ⟨c, hc⟩ : ∃ c, eltB v.l v.l.els[k] = c := ⟨_, rfl⟩
      have HC := Lib.hid (HRT.out _ c hc)
      rw [hA] at x2 HC ⊢
      cases c with
      | false =>
        have HF := Lib.hid (HE1.out (elB_no1 (all_no2 (p := eltB v.l) hlt hc)))
        clear hc hA hqo HK
        generalize v.l.els[k] = q at *
        go_wp2_with fail
        refine (HC.out _ hba.rd).mono ?_
        rintro e w5 ⟨rfl, hq5⟩
        have hb5 := hba.now hq5
        clear x0 x1 x2 x3 x4 x5 hba hb
        go_wp2_with fail
        go_ret
        exact ⟨ret_iL HF.out.symm, hb5.bel⟩
      | true =>
        have HN := Lib.hid (all_take2 (p := eltB v.l) hlt HK.out hc)
        clear hc hA hqo HK
        generalize v.l.els[k] = q at *
        go_wp2_with fail
        refine (HC.out _ hba.rd).mono ?_
        rintro e w5 ⟨rfl, hq5⟩
        have hb5 := hba.now hq5
        clear x0 x1 x2 x3 x4 x5 hba hb
        go_wp2_with fail
        go_roundw
        case rel => exact ⟨k + 1, by omega, by go_num, hb5, HN⟩
        case measure => simp [intOf]; omega
    · have HALL := Lib.hid (all_end2 hlt HK.out)
      have x0 := hb.x0
      have x1 := hb.x1
      have x2 := hb.x2
      have x3 := hb.x3
      have x4 := hb.x4
      have x5 := hb.x5
      clear HK hk
      go_wp2_with fail
      clear hlt x0 x1 x2 x3 x4 x5
      go_loopw [24] (fun n wr => ∃ k : Nat, k ≤ v.l.secs.length ∧ n = .int .i64 k ∧ Bx w wr v ∧ Hid (∀ i, i < k → usedB v.l i = true)) (fun n _ => v.l.secs.length - (intOf n).toNat)
      case atStart => exact ⟨0, Nat.zero_le _, rfl, hb, Lib.hid (by simp)⟩
      case round =>
        clear hb
        obtain ⟨k, hk, rfl, hb, HK⟩ := hrel
        have x0 := hb.x0
        have x1 := hb.x1
        have x2 := hb.x2
        have x3 := hb.x3
        have x4 := hb.x4
        have x5 := hb.x5
        by_cases hlt : k < v.l.secs.length
        · have hki : (k : Int) < (v.l.secs.length : Int) := by omega
          have HC := Lib.hid (HMM.out k hlt)
          have hmu := membF_used v.l k
          have hml := membF_len v.l k v.l.els.length
          obtain ⟨mn, hmn⟩ : ∃ mn, (membF v.l k v.l.els.length).length = mn := ⟨_, rfl⟩
          rw [hmn] at HC hmu hml
          clear hmn
          cases hu : usedB v.l k with
          | false =>
            have HF := Lib.hid (HE1.out (elB_no2 hlt hu))
            rw [hu] at hmu
            have hz : ((mn : Int) == 0) = true := by simpa using hmu
            clear hmu hu HK
            go_wp2_with fail
            refine (HC.out _ hb.rd).mono ?_
            rintro e w5 ⟨A9, c9, rfl, hq5⟩
            have hb5 := hb.now hq5
            clear x0 x1 x2 x3 x4 x5 hb
            go_wp2_with fail
            go_ret
            exact ⟨ret_iL HF.out.symm, hb5.bel⟩
          | true =>
            have HN : Hid (∀ i, i < k + 1 → usedB v.l i = true) := Lib.hid fun i hi => by
              by_cases h : i = k
              · rw [h]; exact hu
              · exact HK.out i (by omega)
            rw [hu] at hmu
            have hz : ((mn : Int) == 0) = false := by simpa using hmu
            clear hmu hu HK
            go_wp2_with fail
            refine (HC.out _ hb.rd).mono ?_
            rintro e w5 ⟨A9, c9, rfl, hq5⟩
            have hb5 := hb.now hq5
            clear x0 x1 x2 x3 x4 x5 hb
            go_wp2_with fail
            go_roundw
            case rel => exact ⟨k + 1, by omega, by go_num, hb5, HN⟩
            case measure => simp [intOf]; omega
        · have HEL := Lib.hid (elB_yes HALL.out (fun i hi => HK.out i (by omega)))
          have HJ := Lib.hid (HEJ.out HEL.out)
          clear HK hk HALL HEL
          go_wp2_with fail
          clear hlt x0 x1 x2 x3 x4 x5
          go_loopw [6, 36] (fun s n wr => ∃ k : Nat, k ≤ v.l.jts.length ∧ n = .int .i64 k ∧ OwnR cEnd wr w.heap.size 37 s (endsL (v.l.jts.take k)) 0 ∧ Bx w wr v ∧ Hid ((v.l.jts.take k).all (jntB v.l) = true)) (fun _ n _ => v.l.jts.length - (intOf n).toNat)
          case atStart => exact ⟨0, Nat.zero_le _, rfl, OwnR.nil _ _ _ _ (Nat.zero_le _), hb, Lib.hid (by simp)⟩
          case round =>
            clear hb
            obtain ⟨k, hk, rfl, hown, hb, HK⟩ := hrel
            have hsz := hb.bel.size
            by_cases hlt : k < v.l.jts.length
            · have hki : (k : Int) < (v.l.jts.length : Int) := by omega
              obtain ⟨b, off, hA, lb, hqo, y0, y1, y2, y3⟩ := hb.rd.r3.elJ hlt
              have hba := hb.alloc (.cells #[.int .i64 v.l.jts[k].a.el, .int .i64 v.l.jts[k].a.sd, .int .i64 v.l.jts[k].b.el, .int .i64 v.l.jts[k].b.sd] 39)
              have hown1 := hown.alloc (.cells #[.int .i64 v.l.jts[k].a.el, .int .i64 v.l.jts[k].a.sd, .int .i64 v.l.jts[k].b.el, .int .i64 v.l.jts[k].b.sd] 39)
              have hjb : Blk (wr.alloc (.cells #[.int .i64 v.l.jts[k].a.el, .int .i64 v.l.jts[k].a.sd, .int .i64 v.l.jts[k].b.el, .int .i64 v.l.jts[k].b.sd] 39)) wr.heap.size 39 #[.int .i64 v.l.jts[k].a.el, .int .i64 v.l.jts[k].a.sd, .int .i64 v.l.jts[k].b.el, .int .i64 v.l.jts[k].b.sd] := Blk.new _ _ _ _ rfl
              have x0 := hba.x0
              have x1 := hba.x1
              have x2 := hba.x2
              have x3 := hba.x3
              have x4 := hba.x4
              have x5 := hba.x5
              have HNO := Lib.hid fun h => HJ.out.trans (jnC_no (all_no2 (p := jntB v.l) hlt h))
              have HYE := Lib.hid fun h => all_take2 (p := jntB v.l) hlt HK.out h
              have HEN := Lib.hid (ends_take hlt)
              have hel : (endsL (v.l.jts.take k)).length = 2 * k := by
                have h : ∀ js : List Jnt, (endsL js).length = 2 * js.length := fun js => by
                  induction js with
                  | nil => rfl
                  | cons j r ih => unfold endsL at ih ⊢; rw [List.flatMap_cons, List.length_append, ih]; simp; omega
                rw [h, List.length_take]; omega
              obtain ⟨ca, hca⟩ : ∃ c, exB v.l v.l.jts[k].a = c := ⟨_, rfl⟩
              obtain ⟨cb, hcb⟩ : ∃ c, exB v.l v.l.jts[k].b = c := ⟨_, rfl⟩
              have HCA := Lib.hid (HEX.out _ ca hca)
              have HCB := Lib.hid (HEX.out _ cb hcb)
              have hqq := fun W => eq_end W 9998 v.l.jts[k].a v.l.jts[k].b
              have HA3 := Lib.hid hA
              rw [hA] at x3 HCA HCB ⊢
              clear hA HK
              cases ca with
              | false =>
                have HF := Lib.hid (HNO.out (jntB_no1 hca))
                clear hca hcb HNO HYE HEN hqq hqo hel
                generalize v.l.jts[k] = q at *
                go_wp2_with fail
                refine (HCA.out _ hba.rd).mono ?_
                rintro e w5 ⟨rfl, hq5⟩
                have hb5 := hba.now hq5
                have hj5 := hjb.now hq5
                have hw5 := hown1.now hq5
                clear x0 x1 x2 x3 x4 x5 hba hb hown hown1 hjb
                go_wp2_with fail
                go_ret
                exact ⟨ret_iL HF.out.symm, hb5.bel⟩
              | true =>
                cases cb with
                | false =>
                  have HF := Lib.hid (HNO.out (jntB_no2 hcb))
                  clear hca hcb HNO HYE HEN hqq hqo hel
                  generalize v.l.jts[k] = q at *
                  go_wp2_with fail
                  refine (HCA.out _ hba.rd).mono ?_
                  rintro e w5 ⟨rfl, hq5⟩
                  have hb5 := hba.now hq5
                  have hj5 := hjb.now hq5
                  have hw5 := hown1.now hq5
                  clear x0 x1 x2 x3 x4 x5 hba hb hown hown1 hjb
                  have x0 := hb5.x0
                  have x1 := hb5.x1
                  have x2 := hb5.x2
                  have x3 := hb5.x3
                  have x4 := hb5.x4
                  have x5 := hb5.x5
                  rw [HA3.out] at x3
                  have z0 : w5.cell? ⟨wr.heap.size, 0, none⟩ = some (.int .i64 q.a.el) := hj5.cell 0
                  have z1 : w5.cell? ⟨wr.heap.size, 1, none⟩ = some (.int .i64 q.a.sd) := hj5.cell 1
                  have z2 : w5.cell? ⟨wr.heap.size, 2, none⟩ = some (.int .i64 q.b.el) := hj5.cell 2
                  have z3 : w5.cell? ⟨wr.heap.size, 3, none⟩ = some (.int .i64 q.b.sd) := hj5.cell 3
                  go_wp2_with fail
                  refine (HCB.out _ hb5.rd).mono ?_
                  rintro e w6 ⟨rfl, hq6⟩
                  have hb6 := hb5.now hq6
                  have hj6 := hj5.now hq6
                  have hw6 := hw5.now hq6
                  clear x0 x1 x2 x3 x4 x5 z0 z1 z2 z3 hb5 hj5 hw5
                  go_wp2_with fail
                  go_ret
                  exact ⟨ret_iL HF.out.symm, hb6.bel⟩
                | true =>
                  cases cq : decide (v.l.jts[k].a = v.l.jts[k].b) with
                  | true =>
                    have HF := Lib.hid (HNO.out (jntB_no3 cq))
                    rw [cq] at hqq
                    clear hca hcb HNO HYE HEN hqo hel cq
                    generalize v.l.jts[k] = q at *
                    go_wp2_with fail
                    refine (HCA.out _ hba.rd).mono ?_
                    rintro e w5 ⟨rfl, hq5⟩
                    have hb5 := hba.now hq5
                    have hj5 := hjb.now hq5
                    have hw5 := hown1.now hq5
                    clear x0 x1 x2 x3 x4 x5 hba hb hown hown1 hjb
                    have x0 := hb5.x0
                    have x1 := hb5.x1
                    have x2 := hb5.x2
                    have x3 := hb5.x3
                    have x4 := hb5.x4
                    have x5 := hb5.x5
                    rw [HA3.out] at x3
                    have z0 : w5.cell? ⟨wr.heap.size, 0, none⟩ = some (.int .i64 q.a.el) := hj5.cell 0
                    have z1 : w5.cell? ⟨wr.heap.size, 1, none⟩ = some (.int .i64 q.a.sd) := hj5.cell 1
                    have z2 : w5.cell? ⟨wr.heap.size, 2, none⟩ = some (.int .i64 q.b.el) := hj5.cell 2
                    have z3 : w5.cell? ⟨wr.heap.size, 3, none⟩ = some (.int .i64 q.b.sd) := hj5.cell 3
                    go_wp2_with fail
                    refine (HCB.out _ hb5.rd).mono ?_
                    rintro e w6 ⟨rfl, hq6⟩
                    have hb6 := hb5.now hq6
                    have hj6 := hj5.now hq6
                    have hw6 := hw5.now hq6
                    clear x0 x1 x2 x3 x4 x5 z0 z1 z2 z3 hb5 hj5 hw5
                    have z0 : w6.cell? ⟨wr.heap.size, 0, none⟩ = some (.int .i64 q.a.el) := hj6.cell 0
                    have z1 : w6.cell? ⟨wr.heap.size, 1, none⟩ = some (.int .i64 q.a.sd) := hj6.cell 1
                    have z2 : w6.cell? ⟨wr.heap.size, 2, none⟩ = some (.int .i64 q.b.el) := hj6.cell 2
                    have z3 : w6.cell? ⟨wr.heap.size, 3, none⟩ = some (.int .i64 q.b.sd) := hj6.cell 3
                    go_wp2_with fail
                    go_ret
                    exact ⟨ret_iL HF.out.symm, hb6.bel⟩
                  | false =>
                    have HN := Lib.hid (HYE.out (jntB_yes hca hcb cq))
                    rw [cq] at hqq
                    obtain ⟨oa, ob⟩ := hqo
                    clear hca hcb HNO HYE cq
                    generalize v.l.jts[k] = q at *
                    go_wp2_with fail
                    refine (HCA.out _ hba.rd).mono ?_
                    rintro e w5 ⟨rfl, hq5⟩
                    have hb5 := hba.now hq5
                    have hj5 := hjb.now hq5
                    have hw5 := hown1.now hq5
                    clear x0 x1 x2 x3 x4 x5 hba hb hown hown1 hjb
                    have x0 := hb5.x0
                    have x1 := hb5.x1
                    have x2 := hb5.x2
                    have x3 := hb5.x3
                    have x4 := hb5.x4
                    have x5 := hb5.x5
                    rw [HA3.out] at x3
                    have z0 : w5.cell? ⟨wr.heap.size, 0, none⟩ = some (.int .i64 q.a.el) := hj5.cell 0
                    have z1 : w5.cell? ⟨wr.heap.size, 1, none⟩ = some (.int .i64 q.a.sd) := hj5.cell 1
                    have z2 : w5.cell? ⟨wr.heap.size, 2, none⟩ = some (.int .i64 q.b.el) := hj5.cell 2
                    have z3 : w5.cell? ⟨wr.heap.size, 3, none⟩ = some (.int .i64 q.b.sd) := hj5.cell 3
                    go_wp2_with fail
                    refine (HCB.out _ hb5.rd).mono ?_
                    rintro e w6 ⟨rfl, hq6⟩
                    have hb6 := hb5.now hq6
                    have hj6 := hj5.now hq6
                    have hw6 := hw5.now hq6
                    clear x0 x1 x2 x3 x4 x5 z0 z1 z2 z3 hb5 hj5 hw5
                    have z0 : w6.cell? ⟨wr.heap.size, 0, none⟩ = some (.int .i64 q.a.el) := hj6.cell 0
                    have z1 : w6.cell? ⟨wr.heap.size, 1, none⟩ = some (.int .i64 q.a.sd) := hj6.cell 1
                    have z2 : w6.cell? ⟨wr.heap.size, 2, none⟩ = some (.int .i64 q.b.el) := hj6.cell 2
                    have z3 : w6.cell? ⟨wr.heap.size, 3, none⟩ = some (.int .i64 q.b.sd) := hj6.cell 3
                    have hsz6 := hb6.bel.size
                    generalize hM : endsL (v.l.jts.take k) = ms at *
                    have HM := Lib.hid hM
                    clear hM
                    go_wp2_with (at_builtin; go_loud (refine wpList_append_rs (c := cEnd) _ rfl _ _ 108 rfl w.heap.size 37 i0 _ 16 Tryz.underlying108 hi0 hz0 hz1 hz2 rfl (by decide) _ ms 0 rfl hw6 [_, _, _, _] [q.a, q.b] ⟨[_, _], [_, _], rfl, ⟨rfl, oa⟩, [_, _], [], rfl, ⟨rfl, ob⟩, rfl⟩ (by simp [Value.oneCell']) _ 2 (by simp [Act.eval]) (by simp; omega) (by omega) (by omega) ?_); intro v' w7 hown7 hf7 hs7)
                    go_roundw
                    case rel => exact ⟨k + 1, by omega, by go_num, by rw [HEN.out]; exact hown7, ⟨hf7.keeps (Nat.le_refl _) hsz6 hb6.bel, hf7.blk hb6.blk (by decide), hr.now (hf7.keeps (Nat.le_refl _) hsz6 hb6.bel)⟩, HN⟩
                    case measure => simp [intOf]; omega
            · have HALL2 := Lib.hid (all_end2 hlt HK.out)
              rw [List.take_of_length_le (by omega)] at hown
              obtain ⟨ps, hps⟩ : ∃ ps, endsL v.l.jts = ps := ⟨_, rfl⟩
              rw [hps] at hown
              have HPS := Lib.hid hps
              obtain ⟨A', c', rfl, hcap, hrd⟩ := hown.reads2
              have HEND := Lib.hid (ends_any ps A' c' wr hrd hcap.1)
              clear hown HK hk hps
              cases hd : decide ps.Nodup with
              | false =>
                rw [hd] at HEND
                have HF := Lib.hid (HJ.out.trans (jnC_dup HALL2.out (by rw [HPS.out]; exact of_decide_eq_false hd)))
                clear hd
                go_wp2_with fail
                refine HEND.out.mono ?_
                rintro e w5 ⟨rfl, hq5⟩
                have hb5 := hb.now hq5.below
                go_wp2_with fail
                go_ret
                exact ⟨ret_iL HF.out.symm, hb5.bel⟩
              | true =>
                rw [hd] at HEND
                have HF := Lib.hid (HJ.out.trans (jnC_yes HALL2.out (by rw [HPS.out]; exact of_decide_eq_true hd)))
                clear hd
                go_wp2_with fail
                refine HEND.out.mono ?_
                rintro e w5 ⟨rfl, hq5⟩
                have hb5 := hb.now hq5.below
                go_wp2_with fail
                go_ret
                exact ⟨ret_iL HF.out.symm, hb5.bel⟩
end Go.Proofs.YtopoknocfoiiaaaGreatDoor
