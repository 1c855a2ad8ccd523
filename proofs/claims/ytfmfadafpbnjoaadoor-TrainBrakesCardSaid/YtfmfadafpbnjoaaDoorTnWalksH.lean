/- The walks of the reference's steepest fall, of the weakest brakes, and of the law's own check on profiles. -/
import Derived.Test.YtfmfadafpbnjoaaDoorTnWalksG
namespace Go.Proofs.YtfmfadafpbnjoaaDoor
set_option linter.unusedVariables false
set_option linter.unusedSimpArgs false
open Go.RowKit
attribute [local go_sem] bs_size bs_get bs_append bs_extract bs_toList
theorem infoG : (Tryd.prog.info? 39).map (fun i => (i.zero, i.size, i.bytes)) = some (some (.agg #[.int .i64 0, .int .i64 0, .int .i64 0, .int .i64 0]), 4, 32) := by kernel_rfl
theorem sgmV_cell (x : Sgm) : ∀ u ∈ sgmV x, u.oneCell' = true := by
  intro u hu
  simp only [sgmV, List.mem_cons, List.not_mem_nil, or_false] at hu
  rcases hu with rfl | rfl | rfl | rfl <;> rfl
def tchF (p : List Sgm) (f t : Int) : List Sgm := if validB p then p.filter (touB f t) else []
def tchK (p : List Sgm) (f t : Int) (k : Nat) : List Sgm := if validB p then (p.take k).filter (touB f t) else []
theorem tchK_no {p : List Sgm} {f t : Int} {k : Nat} (hk : k < p.length) (h : validB p = false ∨ touB f t p[k] = false) : tchK p f t (k + 1) = tchK p f t k := by
  unfold tchK
  by_cases hv : validB p = true
  · rw [if_pos hv, if_pos hv, List.take_succ_eq_append_getElem hk, List.filter_append, List.filter_cons]
    rcases h with h | h
    · rw [h] at hv; cases hv
    · rw [h]; simp
  · rw [if_neg hv, if_neg hv]
theorem tchK_yes {p : List Sgm} {f t : Int} {k : Nat} (hk : k < p.length) (hv : validB p = true) (h : touB f t p[k] = true) : tchK p f t (k + 1) = tchK p f t k ++ [p[k]] := by
  unfold tchK
  rw [if_pos hv, if_pos hv, List.take_succ_eq_append_getElem hk, List.filter_append, List.filter_cons, h]
  simp
theorem tchK_len (p : List Sgm) (f t : Int) (k : Nat) : (tchK p f t k).length ≤ p.length := by
  unfold tchK
  split
  · exact Nat.le_trans (List.length_filter_le _ _) (by rw [List.length_take]; omega)
  · simp
theorem tchK_end {p : List Sgm} {f t : Int} {k : Nat} (hk : ¬ k < p.length) : tchK p f t k = tchF p f t := by
  unfold tchK tchF
  rw [List.take_of_length_le (by omega)]
theorem tchF_mem {p : List Sgm} {f t : Int} (h : ∀ x ∈ p, sgmO x) : ∀ x ∈ tchF p f t, sgmO x := by
  intro x hx
  unfold tchF at hx
  split at hx
  · exact h x (List.mem_filter.1 hx).1
  · simp at hx
theorem sgm_all {w : World} {S : Nat → Prop} {A : Option Addr} {l : List Sgm} (h : RdS cG w S A l) : ∀ x ∈ l, sgmO x := fun x hx => by
  obtain ⟨i, hi⟩ := List.getElem?_of_mem hx
  obtain ⟨hl, rfl⟩ := List.getElem?_eq_some_iff.1 hi
  obtain ⟨_, _, _, _, h3, _⟩ := h.el4 hl
  exact h3
theorem touB_no {f t : Int} {x : Sgm} (h : touB f t x = false) : ¬ x.fr ≤ t ∨ (x.fr ≤ t ∧ ¬ f ≤ x.to) := by
  have : ¬ touB f t x = true := by simp [h]
  simp only [touB, Bool.and_eq_true, decide_eq_true_eq] at this
  omega
theorem touB_yes {f t : Int} {x : Sgm} (h : touB f t x = true) : x.fr ≤ t ∧ f ≤ x.to := by simpa [touB] using h
def TPost (w : World) (l : List Sgm) (e : Ending) (w' : World) : Prop := ∃ A cap, e = .returned (.slice A l.length cap) ∧ (l.length ≤ maxLen ∧ l.length ≤ cap) ∧ RdS cG w' (Lt w') A l ∧ Below w.heap.size w w'
set_option maxRecDepth 100000 in
set_option maxHeartbeats 8000000 in
theorem touched_any (p : List Sgm) (A : Option Addr) (cap : Nat) (f t : Int) (w : World) (hr : RdS cG w (Lt w) A p) (hl : p.length ≤ 1000) :
    Calls Tryd.prog 56 #[.slice A p.length cap, .int .i64 f, .int .i64 t] w (TPost w (tchF p f t)) := by
  obtain ⟨i0, hi, hz0, hz1, hz2⟩ := info_parts infoG
  have HTL := Lib.hid fun k => tchK_len p f t k
  go_enter Tryd.func56, Tryd.ntmps56
  go_wp2_with fail
  go_loopw [7, 12] (fun v i wr => ∃ k : Nat, k ≤ p.length ∧ i = .int .i64 k ∧ OwnR cG wr w.heap.size 39 v (tchK p f t k) 0 ∧ Below w.heap.size w wr) (fun _ i _ => p.length - (intOf i).toNat)
  case atStart => exact ⟨0, Nat.zero_le _, rfl, by (have e : tchK p f t 0 = [] := by (unfold tchK; split <;> simp)); rw [e]; exact OwnR.nil _ _ _ _ (Nat.zero_le _), Below.refl _ _⟩
  case round =>
    obtain ⟨k, hk, rfl, hown, hbr⟩ := hrel
    have hsz := hbr.size
    by_cases hlt : k < p.length
    · have hki : (k : Int) < (p.length : Int) := by omega
      have hrr := hr.now hbr
      obtain ⟨b1, o1, hA, l1, hxo, x0, x1, x2, x3⟩ := hrr.el4 hlt
      have hba := hbr.alloc hsz (.cells #[.int .i64 p[k].fr, .int .i64 p[k].to, .int .i64 p[k].grd, .int .i64 p[k].spd] 39)
      have hown1 := hown.alloc (.cells #[.int .i64 p[k].fr, .int .i64 p[k].to, .int .i64 p[k].grd, .int .i64 p[k].spd] 39)
      have hra := hr.now hba
      have hblk : Blk (wr.alloc (.cells #[.int .i64 p[k].fr, .int .i64 p[k].to, .int .i64 p[k].grd, .int .i64 p[k].spd] 39)) wr.heap.size 39 #[.int .i64 p[k].fr, .int .i64 p[k].to, .int .i64 p[k].grd, .int .i64 p[k].spd] := Blk.new _ _ _ _ rfl
      cases hv : validB p with
      | false =>
        have HN := Lib.hid (tchK_no (f := f) (t := t) hlt (Or.inl hv))
        have HV := Lib.hid fun (c : Nat) (W : World) (h : RdS cG W (Lt W) A p) => rvalidC hv A c W h (by unfold maxLen; omega)
        clear hv hr hrr hown
        rw [hA] at HV hra ⊢
        generalize p[k] = x at *
        go_wp2_with fail
        refine (HV.out _ _ hra).mono ?_
        rintro e w2 ⟨rfl, hb2⟩
        have hB2 := bel_then hba hba.size hb2
        have hown2 := hown1.now hb2
        go_wp2_with fail
        go_roundw
        case rel => exact ⟨k + 1, by omega, by go_num, by rw [HN.out]; exact hown2, hB2⟩
        case measure => simp [intOf]; omega
      | true =>
        have HV := Lib.hid fun (c : Nat) (W : World) (h : RdS cG W (Lt W) A p) => rvalidC hv A c W h (by unfold maxLen; omega)
        cases ht : touB f t p[k] with
        | false =>
          have HN := Lib.hid (tchK_no (f := f) (t := t) hlt (Or.inr ht))
          have hno := touB_no ht
          clear hv hr hrr hown ht
          rw [hA] at HV hra ⊢
          generalize p[k] = x at *
          rcases hno with hno | ⟨hno, hno2⟩
          all_goals (
            go_wp2_with fail
            refine (HV.out _ _ hra).mono ?_
            rintro e w2 ⟨rfl, hb2⟩
            have hB2 := bel_then hba hba.size hb2
            have hown2 := hown1.now hb2
            have hblk2 := hblk.now hb2
            have c0 : w2.cell? ⟨wr.heap.size, 0, none⟩ = some (.int .i64 x.fr) := hblk2.cell 0
            have c1 : w2.cell? ⟨wr.heap.size, 1, none⟩ = some (.int .i64 x.to) := hblk2.cell 1
            go_wp2_with fail
            go_roundw
            case rel => exact ⟨k + 1, by omega, by go_num, by rw [HN.out]; exact hown2, hB2⟩
            case measure => simp [intOf]; omega)
        | true =>
          have HN := Lib.hid (tchK_yes (f := f) (t := t) hlt hv ht)
          obtain ⟨hy1, hy2⟩ := touB_yes ht
          have hkl := HTL.out k
          clear hv hr hrr hown ht
          rw [hA] at HV hra ⊢
          generalize p[k] = x at *
          generalize tchK p f t k = q at *
          go_wp2_with fail
          refine (HV.out _ _ hra).mono ?_
          rintro e w2 ⟨rfl, hb2⟩
          have hB2 := bel_then hba hba.size hb2
          have hown2 := hown1.now hb2
          have hblk2 := hblk.now hb2
          have hz2' := hB2.size
          have c0 : w2.cell? ⟨wr.heap.size, 0, none⟩ = some (.int .i64 x.fr) := hblk2.cell 0
          have c1 : w2.cell? ⟨wr.heap.size, 1, none⟩ = some (.int .i64 x.to) := hblk2.cell 1
          have c2 : w2.cell? ⟨wr.heap.size, 2, none⟩ = some (.int .i64 x.grd) := hblk2.cell 2
          have c3 : w2.cell? ⟨wr.heap.size, 3, none⟩ = some (.int .i64 x.spd) := hblk2.cell 3
          go_wp2_with (at_builtin; go_loud (refine wpList_append_r (c := cG) _ rfl _ _ 33 rfl w.heap.size 39 i0 _ 32 Tryd.underlying33 hi hz0 hz1 hz2 rfl (by decide) _ q 0 rfl hown2 [_, _, _, _] x ⟨rfl, hxo⟩ (sgmV_cell x) _ rfl (by omega) (by omega) (by omega) ?_); intro v' w5 hown5 hf5 hs5)
          go_roundw
          case rel => exact ⟨k + 1, by omega, by go_num, by rw [HN.out]; exact hown5, hf5.keeps (Nat.le_refl _) hz2' hB2⟩
          case measure => simp [intOf]; omega
    · have HE := Lib.hid (tchK_end (f := f) (t := t) hlt)
      obtain ⟨A', c', rfl, hcap, hrd⟩ := hown.reads2
      go_wp2_with fail
      go_ret
      exact ⟨A', c', by rw [← HE.out]; rfl, by rw [← HE.out]; exact hcap, by rw [← HE.out]; exact hrd, hbr⟩
theorem steep_tch (p : List Sgm) (f t : Int) : steepF p f t = (leastG none (tchF p f t)).getD 0 := by
  unfold steepF tchF
  cases validB p <;> rfl
theorem LG_at {l : List Sgm} {k : Nat} (hk : k < l.length) : leastG none (l.take (k + 1)) = some (match leastG none (l.take k) with
    | none => l[k].grd
    | some e => if l[k].grd < e then l[k].grd else e) := by
  rw [List.take_succ_eq_append_getElem hk, leastG_snoc]
  cases leastG none (l.take k) <;> rfl
theorem LG_some : ∀ {l : List Sgm} {k : Nat}, 0 < k → k < l.length → ∃ v, leastG none (l.take k) = some v := fun {l k} h0 hk => by
  obtain ⟨m, rfl⟩ : ∃ m, k = m + 1 := ⟨k - 1, by omega⟩
  exact ⟨_, LG_at (by omega)⟩
set_option maxRecDepth 100000 in
set_option maxHeartbeats 8000000 in
theorem rsteepest_any (p : List Sgm) (A : Option Addr) (cap : Nat) (f t : Int) (w : World) (hr : RdS cG w (Lt w) A p) (hl : p.length ≤ 1000) :
    Calls Tryd.prog 37 #[.slice A p.length cap, .int .i64 f, .int .i64 t] w fun e w' => e = .returned (.int .i64 (steepF p f t)) ∧ Below w.heap.size w w' := by
  have HF := Lib.hid (steep_tch p f t)
  have HT := Lib.hid fun W (h : RdS cG W (Lt W) A p) => touched_any p A cap f t W h hl
  generalize tchF p f t = l at *
  go_enter Tryd.func37, Tryd.ntmps37
  go_wp2_with fail
  refine (HT.out _ hr).mono ?_
  rintro e w1 ⟨A1, c1, rfl, hl1, hr1, hb1⟩
  have hl2 := hl1.1
  unfold maxLen at hl2
  clear hr
  go_wp2_with fail
  go_loopw [7, 15] (fun rs i wr => ∃ k : Nat, k ≤ l.length ∧ i = .int .i64 k ∧ rs = .int .i64 ((leastG none (l.take k)).getD 0) ∧ Below w1.heap.size w1 wr) (fun _ i _ => l.length - (intOf i).toNat)
  case atStart => exact ⟨0, Nat.zero_le _, rfl, rfl, Below.refl _ _⟩
  case round =>
    obtain ⟨k, hk, rfl, rfl, hbr⟩ := hrel
    by_cases hlt : k < l.length
    · have hki : (k : Int) < (l.length : Int) := by omega
      obtain ⟨b1, o1, rfl, l1, ho, x0, x1, x2, x3⟩ := (hr1.now hbr).el4 hlt
      have hba := hbr.alloc hbr.size (.cells #[.int .i64 l[k].fr, .int .i64 l[k].to, .int .i64 l[k].grd, .int .i64 l[k].spd] 39)
      have HA := Lib.hid (LG_at hlt)
      by_cases h0 : k = 0
      · subst h0
        have HN : Hid ((leastG none (l.take 1)).getD 0 = l[0].grd) := Lib.hid (by rw [HA.out]; rfl)
        clear ho hr1
        generalize l[0] = x at *
        rw [Nat.zero_mul, Nat.add_zero] at x0 x1 x2 x3
        rw [show ((0 : Nat) : Int) = (0 : Int) from rfl]
        go_wp2_with fail
        go_roundw
        case rel => exact ⟨1, by omega, by go_num, by rw [HN.out], hba⟩
        case measure => simp [intOf]; omega
      · obtain ⟨v, hv⟩ := LG_some (l := l) (k := k) (by omega) hlt
        have hk0 : ((k : Int) == 0) = false := by rw [beq_eq_false_iff_ne]; omega
        by_cases hxv : l[k].grd < v
        · have HN : Hid ((leastG none (l.take (k + 1))).getD 0 = l[k].grd) := Lib.hid (by rw [HA.out, hv]; simp [hxv])
          rw [hv]
          rw [show (some v : Option Int).getD 0 = v from rfl]
          clear ho hr1 hv
          generalize l[k] = x at *
          go_wp2_with fail
          go_roundw
          case rel => exact ⟨k + 1, by omega, by go_num, by rw [HN.out], hba⟩
          case measure => simp [intOf]; omega
        · have HN : Hid ((leastG none (l.take (k + 1))).getD 0 = v) := Lib.hid (by rw [HA.out, hv]; simp [hxv])
          rw [hv]
          rw [show (some v : Option Int).getD 0 = v from rfl]
          clear ho hr1 hv
          generalize l[k] = x at *
          go_wp2_with fail
          go_roundw
          case rel => exact ⟨k + 1, by omega, by go_num, by rw [HN.out], hba⟩
          case measure => simp [intOf]; omega
    · have HE : Hid ((leastG none (l.take k)).getD 0 = steepF p f t) := Lib.hid (by rw [HF.out, List.take_of_length_le (by omega)])
      go_wp2_with fail
      go_ret
      exact ⟨ret_iT HE.out, bel_then hb1 hb1.size hbr⟩
end Go.Proofs.YtfmfadafpbnjoaaDoor
