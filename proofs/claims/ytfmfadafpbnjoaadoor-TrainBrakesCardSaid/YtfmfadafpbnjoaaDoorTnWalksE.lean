/- How segments lie in memory; the walks of the checks on profiles. -/
import Derived.Test.YtfmfadafpbnjoaaDoorTnWalksD
namespace Go.Proofs.YtfmfadafpbnjoaaDoor
set_option linter.unusedVariables false
set_option linter.unusedSimpArgs false
open Go.RowKit
attribute [local go_sem] bs_size bs_get bs_append bs_extract bs_toList
def sgmV (x : Sgm) : List Value := [.int .i64 x.fr, .int .i64 x.to, .int .i64 x.grd, .int .i64 x.spd]
def sgmO (x : Sgm) : Prop := I64n x.fr ∧ I64n x.to ∧ I64n x.grd ∧ I64n x.spd
def cG : Cod Sgm where
  size := 4
  rd := fun _ _ cs x => cs = sgmV x ∧ sgmO x
  fit := fun _ => True
  len := fun h => by rw [h.1]; rfl
  keep := fun h _ => h
  more := fun h _ => h
theorem RdS.el4 {w : World} {S : Nat → Prop} {A : Option Addr} {l : List Sgm} (h : RdS cG w S A l) {i : Nat} (hi : i < l.length) :
    ∃ b off, A = some ⟨b, off, none⟩ ∧ S b ∧ sgmO l[i] ∧ w.cell? ⟨b, off + i * 4, none⟩ = some (.int .i64 l[i].fr) ∧ w.cell? ⟨b, off + i * 4 + 1, none⟩ = some (.int .i64 l[i].to) ∧ w.cell? ⟨b, off + i * 4 + 2, none⟩ = some (.int .i64 l[i].grd) ∧ w.cell? ⟨b, off + i * 4 + 3, none⟩ = some (.int .i64 l[i].spd) := by
  obtain ⟨b, off, h1, h2, h3⟩ := h (by omega)
  obtain ⟨ys, ⟨rfl, h4⟩, h5⟩ := h3 i l[i] (List.getElem?_eq_getElem hi)
  exact ⟨b, off, h1, h2, h4, h5 0 _ rfl, h5 1 _ rfl, h5 2 _ rfl, h5 3 _ rfl⟩
/-- The end of the entry ahead of place k. -/
def prevE (p : List Sgm) (k : Nat) : Option Int := if k = 0 then none else (p[k - 1]?).map Sgm.to
theorem prevE_succ {p : List Sgm} {k : Nat} (h : k < p.length) : prevE p (k + 1) = some p[k].to := by
  unfold prevE
  rw [if_neg (by omega), Nat.add_sub_cancel, List.getElem?_eq_getElem h]
  rfl
theorem chain_at {p : List Sgm} {k : Nat} (h : k < p.length) : chainB (prevE p k) (p.drop k) = (okS p[k] && ((match prevE p k with
    | none => true
    | some e => decide (e = p[k].fr)) && chainB (some p[k].to) (p.drop (k + 1)))) := by
  rw [List.drop_eq_getElem_cons h]
  cases prevE p k <;> rfl
theorem chain_bad {p : List Sgm} {k : Nat} (h : k < p.length) (hv : chainB none p = chainB (prevE p k) (p.drop k)) (hb : okS p[k] = false ∨ (0 < k ∧ p[k - 1].to ≠ p[k].fr)) : chainB none p = false := by
  rw [hv, chain_at h]
  rcases hb with hb | ⟨h0, hb⟩
  · rw [hb]; rfl
  · have e : prevE p k = some p[k - 1].to := by
      unfold prevE
      rw [if_neg (by omega), List.getElem?_eq_getElem (by omega)]
      rfl
    rw [e]
    simp [hb]
theorem chain_ok {p : List Sgm} {k : Nat} (h : k < p.length) (hv : chainB none p = chainB (prevE p k) (p.drop k)) (ho : okS p[k] = true) (hb : k = 0 ∨ (0 < k ∧ p[k - 1].to = p[k].fr)) : chainB none p = chainB (prevE p (k + 1)) (p.drop (k + 1)) := by
  rw [hv, chain_at h, ho, prevE_succ h]
  rcases hb with rfl | ⟨h0, hb⟩
  · rfl
  · have e : prevE p k = some p[k - 1].to := by
      unfold prevE
      rw [if_neg (by omega), List.getElem?_eq_getElem (by omega)]
      rfl
    rw [e]
    simp [hb]
theorem chain_end {p : List Sgm} {k : Nat} (h : ¬ k < p.length) (hv : chainB none p = chainB (prevE p k) (p.drop k)) : chainB none p = true := by
  rw [hv, List.drop_of_length_le (by omega)]
  rfl
theorem okS_iff {x : Sgm} : okS x = true ↔ (-1073741824 ≤ x.fr ∧ x.fr ≤ 1073741824) ∧ (-1073741824 ≤ x.to ∧ x.to ≤ 1073741824) ∧ x.fr < x.to ∧ (-50 ≤ x.grd ∧ x.grd ≤ 50) ∧ 1 ≤ x.spd ∧ x.spd ≤ 10000 := by simp [okS, inB_iff]
/-- In the order of the tests of the reference. -/
theorem okS_no {x : Sgm} (h : okS x = false) : x.fr < -1073741824 ∨ (-1073741824 ≤ x.fr ∧ x.to ≤ x.fr) ∨ (-1073741824 ≤ x.fr ∧ x.fr < x.to ∧ 1073741824 < x.to) ∨ (-1073741824 ≤ x.fr ∧ x.fr < x.to ∧ x.to ≤ 1073741824 ∧ x.grd < -50) ∨ (-1073741824 ≤ x.fr ∧ x.fr < x.to ∧ x.to ≤ 1073741824 ∧ -50 ≤ x.grd ∧ 50 < x.grd) ∨ (-1073741824 ≤ x.fr ∧ x.fr < x.to ∧ x.to ≤ 1073741824 ∧ -50 ≤ x.grd ∧ x.grd ≤ 50 ∧ x.spd < 1) ∨ (-1073741824 ≤ x.fr ∧ x.fr < x.to ∧ x.to ≤ 1073741824 ∧ -50 ≤ x.grd ∧ x.grd ≤ 50 ∧ 1 ≤ x.spd ∧ 10000 < x.spd) := by
  have : ¬ okS x = true := by simp [h]
  rw [okS_iff] at this
  omega
theorem coordC (n : Int) {b : Bool} (h : inB n (-1073741824) 1073741824 = b) (w : World) : Calls Tryd.prog 81 #[.int .i64 n] w fun e w' => e = .returned (.bool b) ∧ w = w' := h ▸ coordinate_any n w
theorem inB_f {n lo hi : Int} (h : ¬ (lo ≤ n ∧ n ≤ hi)) : inB n lo hi = false := by
  rw [Bool.eq_false_iff]; intro e; exact h (inB_iff.1 e)
set_option maxRecDepth 100000 in
set_option maxHeartbeats 8000000 in
theorem valid_any (p : List Sgm) (A : Option Addr) (cap : Nat) (w : World) (hr : RdS cG w (Lt w) A p) (hl : p.length ≤ maxLen) :
    Calls Tryd.prog 66 #[.slice A p.length cap] w fun e w' => e = .returned (.bool (validB p)) ∧ Below w.heap.size w w' := by
  unfold maxLen at hl
  by_cases hlong : 128 < p.length
  · have HF : Hid (validB p = false) := Lib.hid (by unfold validB; rw [decide_eq_false (by omega), Bool.false_and])
    go_enter Tryd.func66, Tryd.ntmps66
    go_wp2_with fail
    go_ret
    exact ⟨ret_b HF.out.symm, Below.refl _ _⟩
  · have HV : Hid (validB p = chainB none p) := Lib.hid (by unfold validB; rw [decide_eq_true (by omega), Bool.true_and])
    have hl1 : p.length ≤ 128 := by omega
    clear hlong hl
    go_enter Tryd.func66, Tryd.ntmps66
    go_wp2_with fail
    go_loopw [10] (fun i wr => ∃ k : Nat, k ≤ p.length ∧ i = .int .i64 k ∧ Below w.heap.size w wr ∧ Hid (chainB none p = chainB (prevE p k) (p.drop k))) (fun i _ => p.length - (intOf i).toNat)
    case atStart => exact ⟨0, Nat.zero_le _, rfl, Below.refl _ _, Lib.hid rfl⟩
    case round =>
      obtain ⟨k, hk, rfl, hbr, HK⟩ := hrel
      by_cases hlt : k < p.length
      · have hki : (k : Int) < (p.length : Int) := by omega
        obtain ⟨b1, o1, hA, l1, ho, x0, x1, x2, x3⟩ := (hr.now hbr).el4 hlt
        have hba := hbr.alloc hbr.size (.cells (sgmV p[k]).toArray 39)
        unfold sgmO I64n at ho
        obtain ⟨⟨a1, a2⟩, ⟨a3, a4⟩, ⟨a5, a6⟩, a7, a8⟩ := ho
        cases hok : okS p[k] with
        | false =>
          have HF : Hid (validB p = false) := Lib.hid (by rw [HV.out]; exact chain_bad hlt HK.out (Or.inl hok))
          have hno := mt (okS_iff (x := p[k])).2 (by simp [hok])
          have HNO := Lib.hid hno
          subst hA
          clear hr hno hok HK HV
          generalize p[k] = x at *
          go_wp2_with (first | (go_at_call 81; refine (coordinate_any _ _).mono ?_; rintro e w' ⟨rfl, rfl⟩))
          all_goals first
            | (go_ret; exact ⟨ret_b HF.out.symm, hba⟩)
            | (exfalso; refine HNO.out ?_; simp_all [inB_iff]; omega)
            | (exfalso; refine HNO.out ?_; simp_all [inB_iff]; done)
        | true =>
          have hok2 := okS_iff.1 hok
          obtain ⟨⟨q1, q2⟩, ⟨q3, q4⟩, q5, ⟨q6, q7⟩, q8, q9⟩ := hok2
          have cf := coordC p[k].fr (b := true) (inB_iff.2 ⟨q1, q2⟩)
          have ct := coordC p[k].to (b := true) (inB_iff.2 ⟨q3, q4⟩)
          by_cases h0 : k = 0
          · subst h0
            have HN := Lib.hid (chain_ok hlt HK.out hok (Or.inl rfl))
            subst hA
            clear hr hok HK
            generalize p[0] = x at *
            rw [Nat.zero_mul, Nat.add_zero] at x0 x1 x2 x3
            rw [show ((0 : Nat) : Int) = (0 : Int) from rfl]
            go_wp2_with fail
            refine (cf _).mono ?_
            rintro e w' ⟨rfl, rfl⟩
            go_wp2_with fail
            refine (ct _).mono ?_
            rintro e w' ⟨rfl, rfl⟩
            go_wp2_with fail
            (refine wp_region_quiet_lit (by kernel_rfl) (by kernel_rfl) ?_; (repeat (any_goals (first | go_big_quiet_step (fail) | quiet_step (fail) | (refine wpQuiet_step (fun K hK => ?_); go_simp; split <;> (refine hK _ ?_; clear hK K))))); all_goals (refine wpQuiet_nil ?_; intro _ hw'; obtain ⟨nq, hw''⟩ := hw'; subst hw''))
            go_wp2_with fail
            all_goals go_roundw
            case rel => exact ⟨1, by omega, by go_num, Below.drewN hba _, HN⟩
            case measure => simp [intOf]; omega
          · obtain ⟨m, rfl⟩ : ∃ m, k = m + 1 := ⟨k - 1, by omega⟩
            obtain ⟨b2, o2, hA2, l2, _, _, y1, _, _⟩ := (hr.now hba).el4 (i := m) (by omega)
            by_cases hch : p[m].to = p[m + 1].fr
            · have HN := Lib.hid (chain_ok hlt HK.out hok (Or.inr ⟨by omega, hch⟩))
              have hcb : (p[m + 1].fr != p[m].to) = false := by simp [hch]
              rw [hch] at y1
              clear hch hcb
              subst hA
              obtain ⟨rfl, rfl⟩ : b1 = b2 ∧ o1 = o2 := by simpa using hA2
              have hm1 : IntKind.i64.wrap ((m : Int) + 1 - 1) = (m : Int) := by rw [IntWalk.i64_in _ (by omega)]; omega
              have hm3 : IntKind.i64.wrap (m : Int) = (m : Int) := IntWalk.i64_in _ (by omega)
              have hm2 : ((m : Int) + 1 - 1) = (m : Int) := by omega
              have hmlt : (m : Int) < (p.length : Int) := by omega
              clear hr hok HK hA2
              generalize p[m + 1] = x at *
              have y1b : (wr.alloc (.cells #[.int .i64 x.fr, .int .i64 x.to, .int .i64 x.grd, .int .i64 x.spd] 39)).cell? ⟨b1, o1 + m * 4 + 1, none⟩ = some (.int .i64 x.fr) := y1
              clear y1
              go_wp2_with fail
              refine (cf _).mono ?_
              rintro e w' ⟨rfl, rfl⟩
              go_wp2_with fail
              refine (ct _).mono ?_
              rintro e w' ⟨rfl, rfl⟩
              go_wp2_with fail
              (refine wp_region_quiet_lit (by kernel_rfl) (by kernel_rfl) ?_; (repeat (any_goals (first | go_big_quiet_step (fail) | quiet_step (fail) | (refine wpQuiet_step (fun K hK => ?_); go_simp; split <;> (refine hK _ ?_; clear hK K))))); all_goals (refine wpQuiet_nil ?_; intro _ hw'; obtain ⟨nq, hw''⟩ := hw'; subst hw''))
              go_wp2_with fail
              all_goals go_roundw
              case rel => exact ⟨m + 1 + 1, by omega, by go_num, Below.drewN hba _, HN⟩
              case measure => simp [intOf]; omega
            · have HF : Hid (validB p = false) := Lib.hid (by rw [HV.out]; exact chain_bad hlt HK.out (Or.inr ⟨by omega, hch⟩))
              have hcb : (p[m + 1].fr != p[m].to) = true := by rw [bne_iff_ne]; exact fun e => hch e.symm
              clear hch
              subst hA
              obtain ⟨rfl, rfl⟩ : b1 = b2 ∧ o1 = o2 := by simpa using hA2
              have hm1 : IntKind.i64.wrap ((m : Int) + 1 - 1) = (m : Int) := by rw [IntWalk.i64_in _ (by omega)]; omega
              have hm3 : IntKind.i64.wrap (m : Int) = (m : Int) := IntWalk.i64_in _ (by omega)
              have hm2 : ((m : Int) + 1 - 1) = (m : Int) := by omega
              have hmlt : (m : Int) < (p.length : Int) := by omega
              clear hr hok HK hA2
              generalize p[m] = z at *
              generalize p[m + 1] = x at *
              have y1b : (wr.alloc (.cells #[.int .i64 x.fr, .int .i64 x.to, .int .i64 x.grd, .int .i64 x.spd] 39)).cell? ⟨b1, o1 + m * 4 + 1, none⟩ = some (.int .i64 z.to) := y1
              clear y1
              go_wp2_with fail
              refine (cf _).mono ?_
              rintro e w' ⟨rfl, rfl⟩
              go_wp2_with fail
              refine (ct _).mono ?_
              rintro e w' ⟨rfl, rfl⟩
              go_wp2_with fail
              (refine wp_region_quiet_lit (by kernel_rfl) (by kernel_rfl) ?_; (repeat (any_goals (first | go_big_quiet_step (fail) | quiet_step (fail) | (refine wpQuiet_step (fun K hK => ?_); go_simp; split <;> (refine hK _ ?_; clear hK K))))); all_goals (refine wpQuiet_nil ?_; intro _ hw'; obtain ⟨nq, hw''⟩ := hw'; subst hw''))
              go_wp2_with fail
              all_goals (go_ret; exact ⟨ret_b HF.out.symm, Below.drewN hba _⟩)
      · have HF : Hid (validB p = true) := Lib.hid (by rw [HV.out]; exact chain_end hlt HK.out)
        go_wp2_with fail
        go_ret
        exact ⟨ret_b HF.out.symm, hbr⟩
end Go.Proofs.YtfmfadafpbnjoaaDoor
