/- The walks of the laws TrainRoundTrips and TrainErrors. -/
import Derived.Test.YtfmfadafpbnjoaaDoorTnLawsB
namespace Go.Proofs.YtfmfadafpbnjoaaDoor
set_option linter.unusedVariables false
set_option linter.unusedSimpArgs false
open Go.RowKit
attribute [local go_sem] bs_size bs_get bs_append bs_extract bs_toList
attribute [-go_sem] run_equalIn_agg
theorem prt_cases (t : Trn) : (∃ a, prtT t = (a, 0) ∧ parT a = (t, 0) ∧ a.length ≤ 715) ∨ ∃ a x, prtT t = (a, x) ∧ x ≠ 0 := by
  by_cases hc : chkF t = 0
  · exact Or.inl ⟨_, prt_yes hc, (prt_par hc).1, (prt_par hc).2⟩
  · exact Or.inr ⟨_, _, prt_no rfl hc, hc⟩
theorem par_cases (s : List UInt8) : (∃ u, parT s = (u, 0) ∧ prtT u = (s, 0)) ∨ ∃ u x, parT s = (u, x) ∧ x ≠ 0 := by
  cases h : parT s with
  | mk u x =>
    by_cases hx : x = 0
    · subst hx
      exact Or.inl ⟨u, rfl, par_prt h⟩
    · exact Or.inr ⟨u, x, rfl, hx⟩
theorem eq_self (t : Trn) (W : World) : (Op.equalIn 10000 23 (trnA t) (trnA t)).run Tryd.prog W = .ok true W := by
  have h : decide (t = t) = true := decide_eq_true rfl
  rw [← h]; exact eq_trn W 9998 t t
set_option maxRecDepth 100000 in
set_option maxHeartbeats 8000000 in
theorem trainRoundTrips_walk (t : Trn) (s : List UInt8) (w : World) (E : EnvR w) (ht : trnO t) (hs : s.length ≤ maxLen) : Calls Tryd.prog 7 #[trnA t, .string (bs s)] w (True1 w) := by
  have hn := ht.2
  have hts := TS.new w t w.heap.size rfl
  unfold maxLen at hn hs
  by_cases hlong : 1000 < t.name.length ∨ 2000 < s.length
  · by_cases h1 : 1000 < t.name.length
    · unfold trnA
      go_enter Tryd.func7, Tryd.ntmps7
      go_wp2_with fail
      refine (talive_any _ (E.now hts.bel)).mono ?_
      rintro e w2 ⟨rfl, hb2⟩
      go_wp2_with fail
      go_ret
      exact ⟨rfl, (hts.now hb2).bel⟩
    · have h2 : 2000 < s.length := by omega
      unfold trnA
      go_enter Tryd.func7, Tryd.ntmps7
      go_wp2_with fail
      refine (talive_any _ (E.now hts.bel)).mono ?_
      rintro e w2 ⟨rfl, hb2⟩
      go_wp2_with fail
      go_ret
      exact ⟨rfl, (hts.now hb2).bel⟩
  · have h1 : ¬ 1000 < t.name.length := by omega
    have h2 : ¬ 2000 < s.length := by omega
    have hs2 : s.length ≤ 2000 := by omega
    have hn' : t.name.length ≤ maxLen := by unfold maxLen; omega
    have heq := eq_self t
    clear hlong ht
    rcases prt_cases t with ⟨a, hp, hpa, hal⟩ | ⟨a, x, hp, hx⟩
    · have HP := Lib.hid fun (W : World) (E : Env W) => printC hp W E hn'
      have HB := Lib.hid fun (W : World) (E : EnvR W) => parseC hpa W E (by omega)
      clear hp hpa
      rcases par_cases s with ⟨u, hq, hqp⟩ | ⟨u, y, hq, hy⟩
      · have hun := par_name hq (by omega)
        have HQ := Lib.hid fun (W : World) (E : EnvR W) => parseC hq W E (by omega)
        have HR := Lib.hid fun (W : World) (E : Env W) => printC hqp W E (by unfold maxLen; omega)
        clear hq hqp
        unfold trnA at *
        go_enter Tryd.func7, Tryd.ntmps7
        go_wp2_with fail
        refine (HP.out _ (E.toEnv.now hts.bel)).mono ?_
        rintro e w2 ⟨rfl, hb2⟩
        have hts2 := hts.now hb2
        clear hts hb2
        go_wp2_with fail
        refine (HB.out _ (E.now hts2.bel)).mono ?_
        rintro e w3 ⟨rfl, hb3⟩
        have hts3 := (hts2.now hb3).now ((Below.refl _ _).alloc (Nat.le_refl _) (.cells #[.int .i64 t.id, .string (bs t.name), .int .i64 t.len, .int .i64 t.spd, .int .i64 t.acc, .int .i64 t.srv, .int .i64 t.emg, .int .i64 t.dly, .int .i64 t.cst, .int .i64 t.rate] 23))
        obtain ⟨q0, q1, q2, q3, q4, q5, q6, q7, q8, q9, q10, q11⟩ := id (hts2.now hb3)
        have hB := hts3.bel
        clear hts2 hts3 hb3 q10
        go_wp2_with fail
        refine (HQ.out _ (E.now hB)).mono ?_
        rintro e w4 ⟨rfl, hb4⟩
        have hB4 := bel_then hB hB.size hb4
        have hB5 := hB4.alloc hB4.size (.cells #[.int .i64 u.id, .string (bs u.name), .int .i64 u.len, .int .i64 u.spd, .int .i64 u.acc, .int .i64 u.srv, .int .i64 u.emg, .int .i64 u.dly, .int .i64 u.cst, .int .i64 u.rate] 23)
        go_wp2_with fail
        refine (HR.out _ (E.toEnv.now hB5)).mono ?_
        rintro e w5 ⟨rfl, hb5⟩
        have hB6 := bel_then hB5 hB5.size hb5
        go_wp2_with fail
        refine (talive_any _ (E.now hB6)).mono ?_
        rintro e w6 ⟨rfl, hb6⟩
        go_wp2_with fail
        go_ret
        exact ⟨rfl, bel_then hB6 hB6.size hb6⟩
      · have HQ := Lib.hid fun (W : World) (E : EnvR W) => parseC hq W E (by omega)
        have hyb : (y == 0) = false := by simpa using hy
        clear hq hy
        unfold trnA at *
        go_enter Tryd.func7, Tryd.ntmps7
        go_wp2_with fail
        refine (HP.out _ (E.toEnv.now hts.bel)).mono ?_
        rintro e w2 ⟨rfl, hb2⟩
        have hts2 := hts.now hb2
        clear hts hb2
        go_wp2_with fail
        refine (HB.out _ (E.now hts2.bel)).mono ?_
        rintro e w3 ⟨rfl, hb3⟩
        have hts3 := (hts2.now hb3).now ((Below.refl _ _).alloc (Nat.le_refl _) (.cells #[.int .i64 t.id, .string (bs t.name), .int .i64 t.len, .int .i64 t.spd, .int .i64 t.acc, .int .i64 t.srv, .int .i64 t.emg, .int .i64 t.dly, .int .i64 t.cst, .int .i64 t.rate] 23))
        obtain ⟨q0, q1, q2, q3, q4, q5, q6, q7, q8, q9, q10, q11⟩ := id (hts2.now hb3)
        have hB := hts3.bel
        clear hts2 hts3 hb3 q10
        go_wp2_with fail
        refine (HQ.out _ (E.now hB)).mono ?_
        rintro e w4 ⟨rfl, hb4⟩
        have hB4 := bel_then hB hB.size hb4
        have hB5 := hB4.alloc hB4.size (.cells #[.int .i64 u.id, .string (bs u.name), .int .i64 u.len, .int .i64 u.spd, .int .i64 u.acc, .int .i64 u.srv, .int .i64 u.emg, .int .i64 u.dly, .int .i64 u.cst, .int .i64 u.rate] 23)
        have hB6 := hB5
        go_wp2_with fail
        refine (talive_any _ (E.now hB6)).mono ?_
        rintro e w6 ⟨rfl, hb6⟩
        go_wp2_with fail
        go_ret
        exact ⟨rfl, bel_then hB6 hB6.size hb6⟩
    · have HP := Lib.hid fun (W : World) (E : Env W) => printC hp W E hn'
      have hxb : (x == 0) = false := by simpa using hx
      clear hp hx
      rcases par_cases s with ⟨u, hq, hqp⟩ | ⟨u, y, hq, hy⟩
      · have hun := par_name hq (by omega)
        have HQ := Lib.hid fun (W : World) (E : EnvR W) => parseC hq W E (by omega)
        have HR := Lib.hid fun (W : World) (E : Env W) => printC hqp W E (by unfold maxLen; omega)
        clear hq hqp
        unfold trnA at *
        go_enter Tryd.func7, Tryd.ntmps7
        go_wp2_with fail
        refine (HP.out _ (E.toEnv.now hts.bel)).mono ?_
        rintro e w2 ⟨rfl, hb2⟩
        have hts2 := hts.now hb2
        clear hts hb2
        have hB := hts2.bel
        clear hts2
        go_wp2_with fail
        refine (HQ.out _ (E.now hB)).mono ?_
        rintro e w4 ⟨rfl, hb4⟩
        have hB4 := bel_then hB hB.size hb4
        have hB5 := hB4.alloc hB4.size (.cells #[.int .i64 u.id, .string (bs u.name), .int .i64 u.len, .int .i64 u.spd, .int .i64 u.acc, .int .i64 u.srv, .int .i64 u.emg, .int .i64 u.dly, .int .i64 u.cst, .int .i64 u.rate] 23)
        go_wp2_with fail
        refine (HR.out _ (E.toEnv.now hB5)).mono ?_
        rintro e w5 ⟨rfl, hb5⟩
        have hB6 := bel_then hB5 hB5.size hb5
        go_wp2_with fail
        refine (talive_any _ (E.now hB6)).mono ?_
        rintro e w6 ⟨rfl, hb6⟩
        go_wp2_with fail
        go_ret
        exact ⟨rfl, bel_then hB6 hB6.size hb6⟩
      · have HQ := Lib.hid fun (W : World) (E : EnvR W) => parseC hq W E (by omega)
        have hyb : (y == 0) = false := by simpa using hy
        clear hq hy
        unfold trnA at *
        go_enter Tryd.func7, Tryd.ntmps7
        go_wp2_with fail
        refine (HP.out _ (E.toEnv.now hts.bel)).mono ?_
        rintro e w2 ⟨rfl, hb2⟩
        have hts2 := hts.now hb2
        clear hts hb2
        have hB := hts2.bel
        clear hts2
        go_wp2_with fail
        refine (HQ.out _ (E.now hB)).mono ?_
        rintro e w4 ⟨rfl, hb4⟩
        have hB4 := bel_then hB hB.size hb4
        have hB5 := hB4.alloc hB4.size (.cells #[.int .i64 u.id, .string (bs u.name), .int .i64 u.len, .int .i64 u.spd, .int .i64 u.acc, .int .i64 u.srv, .int .i64 u.emg, .int .i64 u.dly, .int .i64 u.cst, .int .i64 u.rate] 23)
        have hB6 := hB5
        go_wp2_with fail
        refine (talive_any _ (E.now hB6)).mono ?_
        rintro e w6 ⟨rfl, hb6⟩
        go_wp2_with fail
        go_ret
        exact ⟨rfl, bel_then hB6 hB6.size hb6⟩
theorem err_le {t : Trn} (hc : chkF t = 0) (m : Int) : errT t m ≤ 200000000 := by
  by_cases h : m ≤ 0
  · unfold errT; rw [if_pos h]; omega
  · rw [err_pos h]
    have h1 := err_bounds hc h
    obtain ⟨_, _, _, _, _, _, _, _, hcs, _⟩ := chk_ok hc
    omega
theorem errorW {t : Trn} {c : Int} (hc : chkF t = 0) {m : Int} (h : errT t m = c) (w : World) (hm : I64n m) : Calls Tryd.prog 18 #[trnA t, .int .i64 m] w fun e w' => e = .returned (.int .i64 c) ∧ Below w.heap.size w w' := h ▸ error_any t hc m w hm
set_option maxRecDepth 100000 in
set_option maxHeartbeats 8000000 in
theorem trainErrors_walk (t : Trn) (a b : Int) (w : World) (E : EnvR w) (ht : trnO t) (ha : I64n a) (hb : I64n b) : Calls Tryd.prog 8 #[trnA t, .int .i64 a, .int .i64 b] w (True1 w) := by
  have hn := ht.2
  have hts := TS.new w t w.heap.size rfl
  obtain ⟨c, hc⟩ : ∃ c, chkF t = c := ⟨_, rfl⟩
  have HC := Lib.hid fun (W : World) => rcheckC hc W hn
  unfold I64n at ha hb
  by_cases hc0 : c = 0
  · subst hc0
    by_cases hg : (0 ≤ a ∧ 0 ≤ b) ∧ (a ≤ 536870912 ∧ b ≤ 536870912)
    · obtain ⟨⟨g1, g2⟩, g3, g4⟩ := hg
      obtain ⟨m1, m2, m3, m4⟩ := err_mono hc g1 g2 g3 g4
      have l1 := err_le hc a
      have l2 := err_le hc b
      have l3 := err_le hc (a + b)
      obtain ⟨x, hx⟩ : ∃ x, errT t a = x := ⟨_, rfl⟩
      obtain ⟨y, hy⟩ : ∃ y, errT t b = y := ⟨_, rfl⟩
      obtain ⟨z, hz⟩ : ∃ z, errT t (a + b) = z := ⟨_, rfl⟩
      have HX := Lib.hid fun (W : World) => errorW hc hx W (by constructor <;> omega)
      have HY := Lib.hid fun (W : World) => errorW hc hy W (by constructor <;> omega)
      have HZ := Lib.hid fun (W : World) => errorW hc hz W (by constructor <;> omega)
      rw [hx] at m1 m3 m4 l1
      rw [hy] at m2 m3 l2
      rw [hz] at m1 m2 m3 l3
      have hw1 : IntKind.i64.wrap (a + b) = a + b := IntWalk.i64_in _ (by omega)
      have y0 : 0 ≤ y := by rw [← hy]; exact (err_mono hc g2 g1 g4 g3).2.2.2
      clear hx hy hz hc ht
      unfold trnA at HC HX HY HZ ⊢
      go_enter Tryd.func8, Tryd.ntmps8
      go_wp2_with fail
      refine (HC.out _).mono ?_
      rintro e w2 ⟨rfl, hb2⟩
      have hts2 := hts.now hb2
      clear hts hb2
      generalize hgg : w.heap.size = g at hts2
      go_wp2_with fail
      go_region_held3 (fun w' => w'.cell? ⟨g, 0, none⟩ = some (.int .i64 t.id) ∧ w'.cell? ⟨g, 1, none⟩ = some (.string (bs t.name)) ∧ w'.cell? ⟨g, 2, none⟩ = some (.int .i64 t.len) ∧ w'.cell? ⟨g, 3, none⟩ = some (.int .i64 t.spd) ∧ w'.cell? ⟨g, 4, none⟩ = some (.int .i64 t.acc) ∧ w'.cell? ⟨g, 5, none⟩ = some (.int .i64 t.srv) ∧ w'.cell? ⟨g, 6, none⟩ = some (.int .i64 t.emg) ∧ w'.cell? ⟨g, 7, none⟩ = some (.int .i64 t.dly) ∧ w'.cell? ⟨g, 8, none⟩ = some (.int .i64 t.cst) ∧ w'.cell? ⟨g, 9, none⟩ = some (.int .i64 t.rate) ∧ (Below w.heap.size w w' ∧ g < w'.heap.size)) (first | assumption | exact ts_drew ‹_› | (refine TS.now ‹_› ?_; assumption)) (first
        | (go_at_call 18; (with_reducible refine (HX.out _).mono ?_); rintro e wq ⟨rfl, hq⟩)
        | (go_at_call 18; (with_reducible refine (HY.out _).mono ?_); rintro e wq ⟨rfl, hq⟩)
        | (go_at_call 18; (with_reducible refine (HZ.out _).mono ?_); rintro e wq ⟨rfl, hq⟩))
      all_goals (clear hw1; go_wp2_with fail)
      all_goals (
        refine (talive_any _ (E.now (TS.bel (by assumption)))).mono ?_
        rintro e w9 ⟨rfl, hb9⟩
        go_wp2_with fail
        go_ret
        exact ⟨rfl, TS.bel (TS.now (by assumption) hb9)⟩)
    · have hbad : a < 0 ∨ (0 ≤ a ∧ b < 0) ∨ (0 ≤ a ∧ 0 ≤ b ∧ 536870912 < a) ∨ (0 ≤ a ∧ 0 ≤ b ∧ a ≤ 536870912 ∧ 536870912 < b) := by omega
      clear hg hc ht
      unfold trnA at HC ⊢
      rcases hbad with h1 | ⟨h1, h2⟩ | ⟨h1, h2, h3⟩ | ⟨h1, h2, h3, h4⟩
      all_goals (
        go_enter Tryd.func8, Tryd.ntmps8
        go_wp2_with fail
        refine (HC.out _).mono ?_
        rintro e w2 ⟨rfl, hb2⟩
        have hts2 := hts.now hb2
        go_wp2_with fail
        refine (talive_any _ (E.now hts2.bel)).mono ?_
        rintro e w3 ⟨rfl, hb3⟩
        go_wp2_with fail
        go_ret
        exact ⟨rfl, (hts2.now hb3).bel⟩)
  · have hcb : (c != 0) = true := by simpa using hc0
    clear hc ht hc0
    unfold trnA at HC ⊢
    go_enter Tryd.func8, Tryd.ntmps8
    go_wp2_with fail
    refine (HC.out _).mono ?_
    rintro e w2 ⟨rfl, hb2⟩
    have hts2 := hts.now hb2
    go_wp2_with fail
    refine (talive_any _ (E.now hts2.bel)).mono ?_
    rintro e w3 ⟨rfl, hb3⟩
    go_wp2_with fail
    go_ret
    exact ⟨rfl, (hts2.now hb3).bel⟩
end Go.Proofs.YtfmfadafpbnjoaaDoor
