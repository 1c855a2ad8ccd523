/- The walks of the laws JournalVerifies, JournalParses, JournalReturns. -/
import Derived.Test.YtnckainiphlndaaDoorJnParseR
import Derived.Test.YtnckainiphlndaaDoorJnLawsA
import Derived.Test.YtnckainiphlndaaDoorJnMade
namespace Go.Proofs.YtnckainiphlndaaDoor
set_option linter.unusedVariables false
set_option linter.unusedSimpArgs false
open Go.RowKit
attribute [local go_sem] bs_size bs_get bs_append bs_extract bs_toList
theorem printC {l : List Ent} {t : List UInt8} {x : Int} (h : prtF l = (t, x)) (A : Option Addr) (cap : Nat) (w : World) (E : Env w) (hr : RdS cE w (Lt w) A l) (hl : l.length ≤ maxLen) (hcap : l.length ≤ cap) :
    Calls Tryd.prog 16 #[.slice A l.length cap] w fun e w' => e = .returned (.tuple #[.string (bs t), .int .i64 x]) ∧ Below w.heap.size w w' := by
  have h2 := print_any l A cap w E hr hl hcap
  rw [h] at h2; exact h2
theorem rprintC {l : List Ent} {t : List UInt8} {x : Int} (h : prtF l = (t, x)) (A : Option Addr) (cap : Nat) (w : World) (E : Env w) (hr : RdS cE w (Lt w) A l) (hl : l.length ≤ maxLen) (hcap : l.length ≤ cap) :
    Calls Tryd.prog 17 #[.slice A l.length cap] w fun e w' => e = .returned (.tuple #[.string (bs t), .int .i64 x]) ∧ Below w.heap.size w w' := by
  have h2 := rprint_any l A cap w E hr hl hcap
  rw [h] at h2; exact h2
theorem parseC {s : List UInt8} {j : List Ent} {n : Nat} {x : Int} (h : parF s = (j, n, x)) (w : World) (E : EnvR w) (hs : s.length ≤ 90000) :
    Calls Tryd.prog 20 #[.string (bs s)] w fun e w' => ∃ A cap, e = .returned (.tuple #[.slice A j.length cap, .int .i64 n, .int .i64 x]) ∧ (j.length ≤ maxLen ∧ j.length ≤ cap) ∧ RdS cE w' (Lt w') A j ∧ Below w.heap.size w w' := by
  have h2 := parse_any s w E hs
  rw [h] at h2; exact h2
theorem rparseC {s : List UInt8} {j : List Ent} {n : Nat} {x : Int} (h : parF s = (j, n, x)) (w : World) (E : Env w) (hs : s.length ≤ 90000) :
    Calls Tryd.prog 21 #[.string (bs s)] w fun e w' => ∃ A cap, e = .returned (.tuple #[.slice A j.length cap, .int .i64 n, .int .i64 x]) ∧ (j.length ≤ maxLen ∧ j.length ≤ cap) ∧ RdS cE w' (Lt w') A j ∧ Below w.heap.size w w' := by
  have h2 := rparse_any s w E hs
  rw [h] at h2; exact h2
theorem sumD {l : List Ent} {n : Nat} (h : sumF l = n) (A : Option Addr) (cap : Nat) (w : World) (hr : RdS cE w (Lt w) A l) (hl : l.length ≤ maxLen) : Calls Tryd.prog 18 #[.slice A l.length cap] w fun e w' => e = .returned (.int .u64 (n : Int)) ∧ w = w' := h ▸ sum_any l A cap w hr hl
theorem rsumD {l : List Ent} {n : Nat} (h : sumF l = n) (A : Option Addr) (cap : Nat) (w : World) (hr : RdS cE w (Lt w) A l) (hl : l.length ≤ maxLen) : Calls Tryd.prog 19 #[.slice A l.length cap] w fun e w' => e = .returned (.int .u64 (n : Int)) ∧ w = w' := h ▸ rsum_any l A cap w hr hl
set_option maxRecDepth 100000 in
set_option maxHeartbeats 8000000 in
theorem journalVerifies_walk (l : List Ent) (A : Option Addr) (cap : Nat) (w : World) (E : Env w) (hr : RdS cE w (Lt w) A l) (hfit : (cL cE).fit l) (hcap : l.length ≤ cap) :
    Calls Tryd.prog 5 #[.slice A l.length cap] w (True1 w) := by
  have hl : l.length ≤ maxLen := by have := hfit.1; unfold maxLen; omega
  cases hfw : fewB l with
  | false =>
    go_enter Tryd.func5, Tryd.ntmps5
    go_wp2_with fail
    refine (fewC hfw A cap _ hr hl hfit.2).mono ?_
    rintro e w1 ⟨rfl, hb1⟩
    go_wp2_with fail
    refine (jalive_any _ (E.now hb1)).mono ?_
    rintro e w2 ⟨rfl, hb2⟩
    go_wp2_with fail
    go_ret
    exact ⟨rfl, bel_then hb1 hb1.size hb2⟩
  | true =>
    cases hpr : prtF l with
    | mk t x =>
    obtain ⟨v, hv⟩ : ∃ v, verF l = v := ⟨_, rfl⟩
    obtain ⟨u, hu⟩ : ∃ u, sumF l = u := ⟨_, rfl⟩
    have HPR := Lib.hid hpr
    have HV := Lib.hid hv
    have HU := Lib.hid hu
    clear hpr hv hu
    go_enter Tryd.func5, Tryd.ntmps5
    go_wp2_with fail
    refine (fewC hfw A cap _ hr hl hfit.2).mono ?_
    rintro e w1 ⟨rfl, hb1⟩
    have hr1 := hr.now hb1
    have E1 := E.now hb1
    go_wp2_with fail
    refine (printC HPR.out A cap _ E1 hr1 hl hcap).mono ?_
    rintro e w2 ⟨rfl, hb2⟩
    have hr2 := hr1.now hb2
    have E2 := E1.now hb2
    have hB2 := bel_then hb1 hb1.size hb2
    go_wp2_with fail
    refine (rprintC HPR.out A cap _ E2 hr2 hl hcap).mono ?_
    rintro e w3 ⟨rfl, hb3⟩
    have hr3 := hr2.now hb3
    have E3 := E2.now hb3
    have hB3 := bel_then hB2 hB2.size hb3
    go_wp2_with fail
    refine (verifyC HV.out A cap _ E3 hr3 hl hcap).mono ?_
    rintro e w4 ⟨rfl, hb4⟩
    have hr4 := hr3.now hb4
    have E4 := E3.now hb4
    have hB4 := bel_then hB3 hB3.size hb4
    go_wp2_with fail
    refine (rverifyC HV.out A cap _ E4 hr4 hl hcap).mono ?_
    rintro e w5 ⟨rfl, hb5⟩
    have hr5 := hr4.now hb5
    have E5 := E4.now hb5
    have hB5 := bel_then hB4 hB4.size hb5
    go_wp2_with fail
    refine (sumD HU.out A cap _ hr5 hl).mono ?_
    rintro e w6 ⟨rfl, rfl⟩
    go_wp2_with fail
    refine (rsumD HU.out A cap _ hr5 hl).mono ?_
    rintro e w6 ⟨rfl, rfl⟩
    go_wp2_with fail
    refine (jalive_any _ E5).mono ?_
    rintro e w7 ⟨rfl, hb7⟩
    go_wp2_with fail
    go_ret
    exact ⟨rfl, bel_then hB5 hB5.size hb7⟩
set_option maxRecDepth 100000 in
set_option maxHeartbeats 8000000 in
theorem journalParses_walk (s : List UInt8) (w : World) (E : EnvR w) (hs : s.length ≤ maxLen) :
    Calls Tryd.prog 6 #[.string (bs s)] w (True1 w) := by
  by_cases h6 : 6000 < s.length
  · have hsi : (s.length : Int) ≤ 9223372036854775807 := by unfold maxLen at hs; omega
    go_enter Tryd.func6, Tryd.ntmps6
    go_wp2_with fail
    refine (jalive_any _ E.toEnv).mono ?_
    rintro e w1 ⟨rfl, hb1⟩
    go_wp2_with fail
    go_ret
    exact ⟨rfl, hb1⟩
  · have hs6 : s.length ≤ 6000 := by omega
    cases hpa : parF s with
    | mk j r =>
    obtain ⟨n, x⟩ := r
    cases hpr : prtF j with
    | mk t g =>
    have HPA := Lib.hid hpa
    have HPR := Lib.hid hpr
    have HOK : Hid (x = 0 → g = 0 ∧ t = s) := Lib.hid fun h => by
      subst h
      have := (par_prt hpa).1
      rw [hpr] at this
      simp only [Prod.mk.injEq] at this
      exact ⟨this.2, this.1⟩
    clear hpa hpr hs
    go_enter Tryd.func6, Tryd.ntmps6
    go_wp2_with fail
    refine (parseC HPA.out _ E (by omega)).mono ?_
    rintro e w1 ⟨A1, c1, rfl, hl1, hr1, hb1⟩
    have E1 := E.now hb1
    go_wp2_with fail
    refine (rparseC HPA.out _ E1.toEnv (by omega)).mono ?_
    rintro e w2 ⟨A2, c2, rfl, hl2, hr2, hb2⟩
    have E2 := E1.now hb2
    have hB2 := bel_then hb1 hb1.size hb2
    have hq2 := hr1.now hb2
    go_wp2_with fail
    refine (printC HPR.out A1 c1 _ E2.toEnv hq2 hl1.1 hl1.2).mono ?_
    rintro e w3 ⟨rfl, hb3⟩
    have E3 := E2.now hb3
    have hB3 := bel_then hB2 hB2.size hb3
    have hq3 := hq2.now hb3
    have hr3 := hr2.now hb3
    go_wp2_with fail
    refine (jsameC (r := true) (by simp) A1 A2 c1 c2 _ hq3 hr3 hl1.1 hl2.1).mono ?_
    rintro e w4 ⟨rfl, hb4⟩
    have E4 := E3.now hb4
    have hB4 := bel_then hB3 hB3.size hb4
    by_cases hx : x = 0
    · obtain ⟨rfl, rfl⟩ := HOK.out hx
      subst hx
      go_wp2_with fail
      refine (jalive_any _ E4.toEnv).mono ?_
      rintro e w5 ⟨rfl, hb5⟩
      go_wp2_with fail
      go_ret
      exact ⟨rfl, bel_then hB4 hB4.size hb5⟩
    · have hxb : (x != 0) = true := by simpa using hx
      go_wp2_with fail
      refine (jalive_any _ E4.toEnv).mono ?_
      rintro e w5 ⟨rfl, hb5⟩
      go_wp2_with fail
      go_ret
      exact ⟨rfl, bel_then hB4 hB4.size hb5⟩
theorem textJ_tot : ∀ (l : List Ent), (∀ x ∈ l, okX x) → (textJ l).length ≤ totT l + l.length * 40
  | [], _ => by simp [textJ]
  | x :: r, h => by
    have h1 := textJ_tot r fun y hy => h y (by simp [hy])
    have hx := h x (by simp)
    have h3 := itoa_short x.time ⟨(tm_i64 hx.1).1, (tm_i64 hx.1).2⟩
    have h4 := hexL_len x.sum
    have e : textJ (x :: r) = lineE x ++ textJ r := by simp [textJ]
    have e2 : totT (x :: r) = x.text.length + totT r := by simp [totT]
    rw [e, e2, List.length_append, List.length_cons, Nat.succ_mul]
    unfold lineE lineL
    simp only [List.length_append, List.length_cons, List.length_nil]
    omega
theorem lens_take_succ {ts : List (List UInt8)} {k : Nat} (h : k < ts.length) : lens (ts.take (k + 1)) = lens (ts.take k) + ts[k].length := by
  unfold lens
  rw [List.take_succ_eq_append_getElem h, List.map_append, List.sum_append, List.map_cons, List.map_nil, List.sum_cons, List.sum_nil]
  omega
theorem lens_bound {m : Nat} : ∀ (l : List (List UInt8)), (∀ x ∈ l, x.length ≤ m) → lens l ≤ l.length * m
  | [], _ => by simp [lens]
  | x :: r, h => by
    have h1 := lens_bound r fun y hy => h y (by simp [hy])
    have h2 := h x (by simp)
    simp only [lens, List.map_cons, List.sum_cons, List.length_cons] at h1 ⊢
    rw [Nat.succ_mul]
    omega
set_option maxRecDepth 100000 in
set_option maxHeartbeats 8000000 in
theorem journalReturns_walk (ts : List (List UInt8)) (A : Option Addr) (cap : Nat) (w : World) (E : EnvR w) (hr : RdS cS w (Lt w) A ts) (hfit : (cL cS).fit ts) (hcap : ts.length ≤ cap) :
    Calls Tryd.prog 7 #[.slice A ts.length cap] w (True1 w) := by
  have hl : ts.length ≤ 9223372036854775807 := by have := hfit.1; omega
  have hf := hfit.2
  go_enter Tryd.func7, Tryd.ntmps7
  go_wp2_with fail
  go_loop [3, 14] (fun n i => ∃ (k : Nat) (m : Int), k ≤ ts.length ∧ i = .int .i64 k ∧ n = .int .i64 m ∧ I64n m ∧ Hid (ts.length ≤ 60 → m = lens (ts.take k))) (fun _ i => (ts.length - intOf i).toNat)
  case atStart => exact ⟨0, 0, Nat.zero_le _, rfl, rfl, ⟨by omega, by omega⟩, Lib.hid fun _ => rfl⟩
  case round =>
    obtain ⟨k, m, hk, rfl, rfl, hm, HM⟩ := hrel
    unfold I64n at hm
    by_cases hlt : k < ts.length
    · obtain ⟨b, off, rfl, hx, x0⟩ := str_at hr hlt
      have hxf : ts[k].length ≤ 140737488351232 := hf _ (List.getElem_mem hlt)
      have HT : Hid (ts.length ≤ 60 → wrap64 (m + ts[k].length) = lens (ts.take (k + 1))) := Lib.hid (fun h6 => by
        have e := HM.out h6
        have h2 := lens_bound (ts.take k) (fun y hy => hf y (List.mem_of_mem_take hy))
        rw [List.length_take, Nat.min_eq_left (by omega)] at h2
        have h3 : k * 140737488351232 ≤ 60 * 140737488351232 := Nat.mul_le_mul_right _ (by omega)
        rw [lens_take_succ hlt, e]
        unfold wrap64
        omega)
      generalize ts[k] = x at x0 hx hxf HT
      have hw : I64n (wrap64 (m + x.length)) := by unfold I64n wrap64; omega
      go_wp2_with fail
      go_round
      case rel => exact ⟨k + 1, _, by omega, by go_num, rfl, hw, HT⟩
      case measure => simp [intOf] <;> omega
    · obtain rfl : k = ts.length := by omega
      by_cases h6 : ts.length ≤ 60
      · have hm' := HM.out h6
        rw [List.take_length] at hm'
        by_cases h60 : (6000 : Int) < m
        · clear hm' HM
          go_wp2_with fail
          refine (jalive_any _ E.toEnv).mono ?_
          rintro e w1 ⟨rfl, hb1⟩
          go_wp2_with fail
          go_ret
          exact ⟨rfl, hb1⟩
        · obtain ⟨hv, hjl, hjt⟩ := madeF_facts ts
          have htt : (textJ (madeF ts)).length ≤ 90000 := by
            have := textJ_tot _ fun x hx => verG_ok _ 0 0 0 hv x hx
            have h2 : (madeF ts).length * 40 ≤ 60 * 40 := Nat.mul_le_mul_right _ (by omega)
            omega
          have HPA := Lib.hid (par_text hv)
          have HPR := Lib.hid (prtF_ok hv)
          have HV := Lib.hid hv
          have hmade := Lib.hid fun (W : World) (E : Env W) (h : RdS cS W (Lt W) A ts) => made_any ts A cap W E h (by omega)
          generalize madeF ts = j at *
          generalize textJ j = t at *
          clear hm' HM hv hjl hjt
          go_wp2_with fail
          refine (hmade.out _ E.toEnv hr).mono ?_
          rintro e w1 ⟨A1, c1, rfl, hl1, hr1, hb1⟩
          have E1 := E.now hb1
          go_wp2_with fail
          refine (printC HPR.out A1 c1 _ E1.toEnv hr1 hl1.1 hl1.2).mono ?_
          rintro e w2 ⟨rfl, hb2⟩
          have E2 := E1.now hb2
          have hr2 := hr1.now hb2
          have hB2 := bel_then hb1 hb1.size hb2
          go_wp2_with fail
          refine (parseC HPA.out _ E2 htt).mono ?_
          rintro e w3 ⟨A3, c3, rfl, hl3, hq3, hb3⟩
          have E3 := E2.now hb3
          have hr3 := hr2.now hb3
          have hB3 := bel_then hB2 hB2.size hb3
          go_wp2_with fail
          refine (verifyC HV.out A1 c1 _ E3.toEnv hr3 hl1.1 hl1.2).mono ?_
          rintro e w4 ⟨rfl, hb4⟩
          have E4 := E3.now hb4
          have hr4 := hr3.now hb4
          have hq4 := hq3.now hb4
          have hB4 := bel_then hB3 hB3.size hb4
          go_wp2_with fail
          refine (jsameC (r := true) (by simp) A1 A3 c1 c3 _ hr4 hq4 hl1.1 hl3.1).mono ?_
          rintro e w5 ⟨rfl, hb5⟩
          have E5 := E4.now hb5
          have hB5 := bel_then hB4 hB4.size hb5
          go_wp2_with fail
          refine (jalive_any _ E5.toEnv).mono ?_
          rintro e w6 ⟨rfl, hb6⟩
          go_wp2_with fail
          go_ret
          exact ⟨rfl, bel_then hB5 hB5.size hb6⟩
      · have h6i : (60 : Int) < (ts.length : Int) := by omega
        clear HM
        go_wp2_with fail
        refine (jalive_any _ E.toEnv).mono ?_
        rintro e w1 ⟨rfl, hb1⟩
        go_wp2_with fail
        go_ret
        exact ⟨rfl, hb1⟩
end Go.Proofs.YtnckainiphlndaaDoor
