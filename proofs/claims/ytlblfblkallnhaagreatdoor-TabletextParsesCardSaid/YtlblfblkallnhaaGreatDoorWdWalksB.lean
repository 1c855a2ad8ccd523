/- The walks of Int, Format, Name and their references. -/
import Derived.Test.YtlblfblkallnhaaGreatDoorWdWalksA
namespace Go.Proofs.YtlblfblkallnhaaGreatDoor
set_option linter.unusedVariables false
set_option linter.unusedSimpArgs false
open Go.RowKit
attribute [local go_sem] bs_size bs_get bs_append bs_extract bs_toList
theorem trim_any (s : List UInt8) (w : World) :
    Calls Tryz.prog 124 #[.string (bs s), .string (bs [45])] w fun e w' => e = .returned (.string (bs (digOf s))) ∧ w = w' := by
  have h := trimMinus s w
  rw [trim_dig] at h
  exact h
theorem ret_i2 {a b c d : Int} (h : a = c) (h2 : b = d) : Ending.returned (.tuple #[.int .i64 a, .int .i64 b]) = .returned (.tuple #[.int .i64 c, .int .i64 d]) := by rw [h, h2]
set_option maxRecDepth 100000 in
set_option maxHeartbeats 4000000 in
theorem int_any (s : List UInt8) (w : World) (E : EnvR w) (hs : s.length ≤ 281474976710656) :
    Calls Tryz.prog 107 #[.string (bs s)] w fun e w' => e = .returned (.tuple #[.int .i64 (intF s).1, .int .i64 (intF s).2]) ∧ Below w.heap.size w w' := by
  have hl := digOf_len s
  have HT : Hid (intT s = true → intF s = (0, 4)) := Lib.hid intF_T
  have HB : Hid ((digOf s).all isD = false → intF s = (0, 4)) := Lib.hid intF_bad
  have HA : Hid (intT s = false → (digOf s).all isD = true → (∃ v, Lib.atoiAll s = .ok v ∧ intF s = (v, 0)) ∨ (Lib.atoiAll s = .range ∧ intF s = (0, 17))) := Lib.hid intF_atoi
  have HI : Hid (intT s = ((digOf s).isEmpty || (decide ((digOf s).head? = some 48) && decide (s ≠ [48])))) := Lib.hid rfl
  go_enter Tryz.func107, Tryz.ntmps107
  go_wp2_with fail
  refine (trim_any s _).mono ?_
  rintro e w' ⟨rfl, rfl⟩
  generalize digOf s = d at hl HT HB HA HI ⊢
  cases d with
  | nil =>
    have hF := HT.out (by rw [HI.out]; rfl)
    have HF := Lib.hid hF
    clear hF
    go_wp2_with fail
    go_ret2
    exact ⟨by rw [HF.out]; rfl, Below.refl _ _⟩
  | cons a t =>
    have h0 : 0 < (a :: t).length := by simp
    have hne : (a :: t).isEmpty = false := rfl
    by_cases hT : intT s = true
    · have hF := HT.out hT
      have HF := Lib.hid hF
      clear hF
      have h1 := HI.out.symm.trans hT
      simp only [List.isEmpty_cons, Bool.false_or, List.head?_cons, Bool.and_eq_true, decide_eq_true_eq, Option.some.injEq] at h1
      obtain ⟨rfl, h2⟩ := h1
      have h3 : (s == [48]) = false := by simp [h2]
      clear h2 hT
      go_wp2_with fail
      go_ret2
      exact ⟨by rw [HF.out]; rfl, Below.refl _ _⟩
    · have hT' : intT s = false := by simpa using hT
      have hT2 := HI.out.symm.trans hT'
      simp only [List.isEmpty_cons, Bool.false_or, List.head?_cons] at hT2
      have hg : ¬ (a.toNat = 48 ∧ (s == [48]) = false) := by
        rintro ⟨h1, h2⟩
        have h3 : a = 48 := UInt8.toNat_inj.1 h1
        subst h3
        simp at hT2 h2
        exact h2 hT2
      have HT' := Lib.hid hT'
      clear hT hT2 hT' HI HT
      have h00 : (a :: t)[0] = a := rfl
      have hq : ((a.toNat : Int) == 48) = false ∨ (((a.toNat : Int) == 48) = true ∧ (s == [48]) = true) := by
        by_cases h1 : a.toNat = 48
        · exact .inr ⟨by simp [h1], by cases h : (s == [48]) with | true => rfl | false => exact absurd ⟨h1, h⟩ hg⟩
        · exact .inl (by simp; omega)
      clear hg
      rcases hq with hq | ⟨hq, hq2⟩
      all_goals
        go_wp2_with fail
        clear hq h00 hne
        try clear hq2
        go_loop [5] (fun i => ∃ k : Nat, k ≤ (a :: t).length ∧ i = .int .i64 k ∧ Hid (((a :: t).take k).all isD = true)) (fun i => (a :: t).length - (intOf i).toNat)
        case atStart => exact ⟨0, Nat.zero_le _, rfl, Lib.hid (by simp)⟩
        case round =>
          obtain ⟨k, hk, rfl, HK⟩ := hrel
          generalize hL : a :: t = L at *
          clear hL
          by_cases hlt : k < L.length
          · have HC : Hid (isD L[k] = (decide (48 ≤ L[k].toNat) && decide (L[k].toNat ≤ 57))) := Lib.hid rfl
            generalize hc : L[k].toNat = c at HC
            by_cases hin : 48 ≤ c ∧ c ≤ 57
            · obtain ⟨hin1, hin2⟩ := hin
              go_wp2_with fail
              go_round
              case rel => exact ⟨k + 1, by omega, by go_num, Lib.hid (by rw [all_snoc hlt, HK.out, HC.out]; exact bool2_true (by omega))⟩
              case measure => simp [intOf]; omega
            · have hF : intF s = (0, 4) := HB.out (not_all hlt (by rw [HC.out]; exact bool2_false hin))
              have HF := Lib.hid hF
              clear hF
              go_wp2_with fail
              all_goals first
                | (exfalso; omega)
                | (go_ret2; exact ⟨by rw [HF.out]; rfl, Below.refl _ _⟩)
          · have hall : L.all isD = true := by rw [← take_all L k hlt]; exact HK.out
            rcases HA.out HT'.out hall with ⟨v, hv, hF⟩ | ⟨hv, hF⟩
            · have HF := Lib.hid hF
              have HV := Lib.hid hv
              clear hF hv hall
              go_wp2_with fail
              refine (atoi_ok s v _ (by omega) HV.out).mono ?_
              rintro e w' ⟨rfl, hb⟩
              go_wp2_with fail
              go_ret2
              exact ⟨by rw [HF.out]; rfl, hb⟩
            · have HF := Lib.hid hF
              have HV := Lib.hid hv
              clear hF hv hall
              go_wp2_with fail
              refine (atoi_range s _ E (by omega) HV.out).mono ?_
              rintro e w' ⟨N, rfl, hb⟩
              go_wp2_with fail
              go_ret2
              exact ⟨by rw [HF.out]; rfl, hb⟩
theorem rdigits_b (l : List UInt8) (b : Bool) (w : World) (hs : l.length ≤ maxLen) (h : digB l = b) : Calls Tryz.prog 109 #[.string (bs l)] w fun e w' => e = .returned (.bool b) ∧ w = w' := h ▸ rdigits_any l w hs
theorem intF_neg (t : List UInt8) : intF (45 :: t) = if digB t = false ∨ t = [48] then (0, 4) else if val t ≤ 9223372036854775808 then (-(val t : Int), 0) else (0, 17) := by
  have e : digOf (45 :: t) = t := by simp [digOf]
  rw [intF_eq, e]
  simp only [List.head?_cons, true_and, if_true]
theorem intF_pos {s : List UInt8} (h : s.head? ≠ some 45) : intF s = if digB s = false then (0, 4) else if val s < 9223372036854775808 then ((val s : Int), 0) else (0, 17) := by
  have e : digOf s = s := by unfold digOf; rw [if_neg h]
  rw [intF_eq, e]
  simp only [h, false_and, or_false, if_false]
set_option maxRecDepth 100000 in
set_option maxHeartbeats 4000000 in
theorem rint_neg (t : List UInt8) (w : World) (hs : t.length + 1 ≤ maxLen) :
    Calls Tryz.prog 89 #[.string (bs (45 :: t))] w fun e w' => e = .returned (.tuple #[.int .i64 (intF (45 :: t)).1, .int .i64 (intF (45 :: t)).2]) ∧ w = w' := by
  have hs1 : t.length ≤ maxLen := by omega
  have HF := Lib.hid (intF_neg t)
  unfold maxLen at hs
  have e45 : (45 : UInt8).toNat = 45 := rfl
  by_cases hd : digB t = true
  · have HD := Lib.hid hd
    by_cases hz : t = [48]
    · subst hz
      clear hd
      go_enter Tryz.func89, Tryz.ntmps89
      go_wp2_with (go_at_call 109; refine (rdigits_b _ _ _ hs1 HD.out).mono ?_; rintro e w' ⟨rfl, rfl⟩)
      go_ret2
      exact ⟨by rw [HF.out]; rfl, rfl⟩
    · have hz2 : (t == [48]) = false := by simp [hz]
      have HZ := Lib.hid hz
      clear hz
      have hall := (digB_head hd).2.2
      have HA := Lib.hid hall
      clear hall hd
      by_cases hv : val t ≤ 9223372036854775808
      · have HV := Lib.hid hv
        clear hv
        go_enter Tryz.func89, Tryz.ntmps89
        go_wp2_with (first
          | (go_at_call 109; refine (rdigits_b _ _ _ hs1 HD.out).mono ?_; rintro e w' ⟨rfl, rfl⟩)
          | (go_at_call 110; refine (below_ok _ _ hs1 HA.out HV.out).mono ?_; rintro e w' ⟨rfl, rfl⟩))
        go_ret2
        exact ⟨by rw [HF.out, if_neg (by rw [HD.out]; simp [HZ.out]), if_pos HV.out]; rfl, rfl⟩
      · have HV := Lib.hid hv
        clear hv
        go_enter Tryz.func89, Tryz.ntmps89
        go_wp2_with (first
          | (go_at_call 109; refine (rdigits_b _ _ _ hs1 HD.out).mono ?_; rintro e w' ⟨rfl, rfl⟩)
          | (go_at_call 110; refine (below_over _ _ hs1 HA.out (by have := HV.out; omega)).mono ?_; rintro e w' ⟨rfl, rfl⟩))
        go_ret2
        exact ⟨by rw [HF.out, if_neg (by rw [HD.out]; simp [HZ.out]), if_neg HV.out]; rfl, rfl⟩
  · have hd' : digB t = false := by simpa using hd
    have HD := Lib.hid hd'
    clear hd hd'
    go_enter Tryz.func89, Tryz.ntmps89
    go_wp2_with (go_at_call 109; refine (rdigits_b _ _ _ hs1 HD.out).mono ?_; rintro e w' ⟨rfl, rfl⟩)
    go_ret2
    exact ⟨by rw [HF.out, if_pos (Or.inl HD.out)]; rfl, rfl⟩
set_option maxRecDepth 100000 in
set_option maxHeartbeats 4000000 in
theorem rint_pos (s : List UInt8) (w : World) (hs1 : s.length ≤ maxLen) (hh : s.head? ≠ some 45) :
    Calls Tryz.prog 89 #[.string (bs s)] w fun e w' => e = .returned (.tuple #[.int .i64 (intF s).1, .int .i64 (intF s).2]) ∧ w = w' := by
  have HF := Lib.hid (intF_pos hh)
  have hs := hs1
  unfold maxLen at hs
  cases s with
  | nil =>
    clear hh
    go_enter Tryz.func89, Tryz.ntmps89
    go_wp2_with (go_at_call 109; refine (rdigits_b _ _ _ hs1 (show digB [] = false from rfl)).mono ?_; rintro e w' ⟨rfl, rfl⟩)
    go_ret2
    exact ⟨by rw [HF.out]; rfl, rfl⟩
  | cons a t =>
    have hm : ((a.toNat : Int) == 45) = false := by
      simp at hh ⊢
      intro h
      exact hh (UInt8.toNat_inj.1 (by rw [show (45 : UInt8).toNat = 45 from rfl]; omega))
    have h0 : 0 < (a :: t).length := by simp
    have h00 : (a :: t)[0] = a := rfl
    clear hh
    by_cases hd : digB (a :: t) = true
    · have HD := Lib.hid hd
      have hall := (digB_head hd).2.2
      have HA := Lib.hid hall
      clear hall hd
      by_cases hv : val (a :: t) ≤ 9223372036854775808
      · have HV := Lib.hid hv
        have hvp : (0 : Int) ≤ (val (a :: t) : Int) := by omega
        by_cases hm2 : val (a :: t) = 9223372036854775808
        · have hq : ((-(val (a :: t) : Int)) == -9223372036854775808) = true := by simp [hm2]
          have HM := Lib.hid hm2
          clear hm2 hv hvp
          go_enter Tryz.func89, Tryz.ntmps89
          go_wp2_with (first
            | (go_at_call 109; refine (rdigits_b _ _ _ hs1 HD.out).mono ?_; rintro e w' ⟨rfl, rfl⟩)
            | (go_at_call 110; refine (below_ok _ _ hs1 HA.out HV.out).mono ?_; rintro e w' ⟨rfl, rfl⟩))
          go_ret2
          exact ⟨by rw [HF.out, if_neg (by rw [HD.out]; simp), if_neg (by rw [HM.out]; omega)]; rfl, rfl⟩
        · have hq : ((-(val (a :: t) : Int)) == -9223372036854775808) = false := by simp; omega
          have hv2 : (val (a :: t) : Int) ≤ 9223372036854775807 := by omega
          have HM := Lib.hid hm2
          clear hm2 hv
          generalize hx : val (a :: t) = x at *
          have HX := Lib.hid hx
          clear hx
          go_enter Tryz.func89, Tryz.ntmps89
          go_wp2_with (first
            | (go_at_call 109; refine (rdigits_b _ _ _ hs1 HD.out).mono ?_; rintro e w' ⟨rfl, rfl⟩)
            | (go_at_call 110; refine (below_ok _ _ hs1 HA.out (by rw [HX.out]; exact HV.out)).mono ?_; rw [HX.out]; rintro e w' ⟨rfl, rfl⟩))
          go_ret2
          refine ⟨?_, rfl⟩
          rw [HF.out, if_neg (by rw [HD.out]; simp), if_pos (by omega)]
          exact ret_i2 (by simp) rfl
      · have HV := Lib.hid hv
        clear hv
        go_enter Tryz.func89, Tryz.ntmps89
        go_wp2_with (first
          | (go_at_call 109; refine (rdigits_b _ _ _ hs1 HD.out).mono ?_; rintro e w' ⟨rfl, rfl⟩)
          | (go_at_call 110; refine (below_over _ _ hs1 HA.out (by have := HV.out; omega)).mono ?_; rintro e w' ⟨rfl, rfl⟩))
        go_ret2
        exact ⟨by rw [HF.out, if_neg (by rw [HD.out]; simp), if_neg (by have := HV.out; omega)]; rfl, rfl⟩
    · have hd' : digB (a :: t) = false := by simpa using hd
      have HD := Lib.hid hd'
      clear hd hd'
      go_enter Tryz.func89, Tryz.ntmps89
      go_wp2_with (go_at_call 109; refine (rdigits_b _ _ _ hs1 HD.out).mono ?_; rintro e w' ⟨rfl, rfl⟩)
      go_ret2
      exact ⟨by rw [HF.out, if_pos HD.out]; rfl, rfl⟩
theorem rint_any (s : List UInt8) (w : World) (hs : s.length ≤ maxLen) :
    Calls Tryz.prog 89 #[.string (bs s)] w fun e w' => e = .returned (.tuple #[.int .i64 (intF s).1, .int .i64 (intF s).2]) ∧ w = w' := by
  by_cases h : s.head? = some 45
  · obtain ⟨t, rfl⟩ : ∃ t, s = 45 :: t := by
      cases s with
      | nil => simp at h
      | cons a t => simp at h; exact ⟨t, by rw [h]⟩
    exact rint_neg t w (by simpa using hs)
  · exact rint_pos s w hs h
end Go.Proofs.YtlblfblkallnhaaGreatDoor
