/- The walk of the law TabletextFirst. -/
import Derived.Test.YtlblfblkallnhaaGreatDoorTbLawL
namespace Go.Proofs.YtlblfblkallnhaaGreatDoor
set_option linter.unusedVariables false
set_option linter.unusedSimpArgs false
open Go.RowKit
attribute [local go_sem] bs_size bs_get bs_append bs_extract bs_toList
attribute [-go_sem] run_equalIn_agg
theorem tpar_first {s : List UInt8} {m : Lns} {a n : Nat} {u : Tab} {e : Int} (hl : linesF s = (m, a, 0)) (hp : parT s = (u, n, e)) (h1 : 1 ≤ n) (h2 : n ≤ m.length) :
    e = 4 ∧ (∀ tb, joinF (m.take (n - 1)) = (tb, 0) → (1 < n → (parT tb).2.1 = 0) ∧ (n = 1 → (parT tb).2 = (1, 4))) ∧ ∀ more tt, joinF (m.take n ++ more) = (tt, 0) → (parT tt).2 = (n, 4) := by
  obtain ⟨he, x, ln, b, t', q, rfl, rfl, hr, hst⟩ := par_bad hl hp h1 h2
  refine ⟨he, fun tb hj => ?_, fun more tt hj => ?_⟩
  · rw [Nat.add_sub_cancel, List.take_left] at hj
    refine ⟨fun h => par_before hj (by intro h0; subst h0; simp at h) hr, fun h => ?_⟩
    obtain rfl : x = [] := List.length_eq_zero_iff.1 (by omega)
    rw [par_empty (lines_join hj)]
  · have e1 : (x ++ ln :: b).take (x.length + 1) ++ more = x ++ ln :: more := by
      rw [List.take_append, List.take_of_length_le (by omega), Nat.add_sub_cancel_left]
      simp
    rw [e1] at hj
    rw [par_tail hj hr hst]
set_option maxRecDepth 100000 in
set_option maxHeartbeats 16000000 in
theorem tabletextFirst_walk (s : List UInt8) (more : Lns) (A1 : Option Addr) (c1 : Nat) (w : World) (E : EnvR w) (hs : s.length ≤ maxLen) (hr : RdS (cL cS) w (Lt w) A1 more) (hfit : (cL (cL cS)).fit more) (hcap : more.length ≤ c1) : Calls Tryz.prog 7 #[.string (bs s), .slice A1 more.length c1] w (True1 w) := by
  have hml := hfit.1
  unfold maxLen at hs
  by_cases hlong : 10000 < s.length
  · have hl2 : (10000 : Int) < (s.length : Int) := by omega
    clear hlong hr hfit hcap
    go_enter Tryz.func7, Tryz.ntmps7
    go_wp2_with fail
    refine (alive_any _ E).mono ?_
    rintro e w1 ⟨rfl, hq1⟩
    go_wp2_with fail
    go_ret
    exact ⟨rfl, hq1⟩
  have hl2 : ¬ (10000 : Int) < (s.length : Int) := by omega
  by_cases hmany : 20 < more.length
  · have hl3 : (20 : Int) < (more.length : Int) := by omega
    clear hlong hr hfit hcap hmany
    go_enter Tryz.func7, Tryz.ntmps7
    go_wp2_with fail
    refine (alive_any _ E).mono ?_
    rintro e w1 ⟨rfl, hq1⟩
    go_wp2_with fail
    go_ret
    exact ⟨rfl, hq1⟩
  have hl3 : ¬ (20 : Int) < (more.length : Int) := by omega
  have hsl : s.length ≤ maxLen := by unfold maxLen; omega
  obtain ⟨⟨pl, n, e0⟩, hp⟩ : ∃ r, parT s = r := ⟨_, rfl⟩
  obtain ⟨⟨ls, kk, f⟩, hl⟩ : ∃ r, linesF s = r := ⟨_, rfl⟩
  have HP := Lib.hid fun W E => tparseC hp W E hsl
  have HL := Lib.hid fun W E => lnC2 hl W E hsl
  have HPP := Lib.hid hp
  have HLL := Lib.hid hl
  obtain ⟨j0, hj0, hy0, hy1, hy2⟩ := info_parts infoStrsT
  have HR := Lib.hid hr
  clear hlong hmany hfit hp hl
  go_enter Tryz.func7, Tryz.ntmps7
  go_wp2_with fail
  go_loop [5] (fun i => ∃ k : Nat, k ≤ more.length ∧ i = .int .i64 k ∧ Hid (∀ x ∈ more.take k, x.length ≤ 100)) (fun i => more.length - (intOf i).toNat)
  case atStart => exact ⟨0, Nat.zero_le _, rfl, Lib.hid (by simp)⟩
  case round =>
    obtain ⟨k, hk, rfl, HK⟩ := hrel
    by_cases hlt : k < more.length
    · have hki : (k : Int) < (more.length : Int) := by omega
      obtain ⟨b, off, A', cap', hA, y0, hcp, _⟩ := elL HR.out hlt
      rw [hA]
      have hmm := hcp.1
      unfold maxLen at hmm
      clear hr hA hcp
      by_cases h100 : 100 < more[k].length
      · have ht : (100 : Int) < (more[k].length : Int) := by omega
        clear h100
        generalize more[k] = q at *
        go_wp2_with fail
        refine (alive_any _ E).mono ?_
        rintro e w1 ⟨rfl, hq1⟩
        go_wp2_with fail
        go_ret
        exact ⟨rfl, hq1⟩
      · have ht : ¬ (100 : Int) < (more[k].length : Int) := by omega
        have HN : Hid (∀ x ∈ more.take (k + 1), x.length ≤ 100) := Lib.hid (by
          rw [List.take_succ_eq_append_getElem hlt]
          intro x hx
          rcases List.mem_append.1 hx with hx | hx
          · exact HK.out x hx
          · rw [List.mem_singleton.1 hx]; omega)
        clear h100
        generalize more[k] = q at *
        go_wp2_with fail
        go_round
        case rel => exact ⟨k + 1, by omega, by go_num, HN⟩
        case measure => simp [intOf]; omega
    · have HM : Hid (∀ x ∈ more, x.length ≤ 100) := Lib.hid (by have := HK.out; rwa [List.take_of_length_le (by omega)] at this)
      clear HK hr
      go_wp2_with fail
      refine (HP.out _ E).mono ?_
      rintro e w1 ⟨v, -, rfl, -, hq1⟩
      have hq2 := hq1.alloc hq1.size (.cells #[.slice v.A1 v.t.rts.length v.c1, .slice v.A2 v.t.pts.length v.c2, .slice v.A3 v.t.homes.length v.c3, .int .i64 v.t.nsec, .int .i64 v.t.nsig] 25)
      unfold tvA
      clear hq1
      go_wp2_with fail
      refine (HL.out _ (E.toEnv.now hq2)).mono ?_
      rintro e w3 ⟨A, cap, rfl, ⟨hlm, hlc⟩, hrd, hq3⟩
      have hq4 := bel_then hq2 hq2.size hq3
      clear hq2 hq3
      dsimp only at hlm hlc hrd ⊢
      unfold maxLen at hlm
      by_cases hf0 : f = 0
      case neg =>
        have hfe : e0 = f := by
          have h1 := par_lines_bad HLL.out hf0
          rw [HPP.out] at h1
          exact (Prod.mk.inj (Prod.mk.inj h1).2).2
        have hfb : (f != 0) = true := by simpa using hf0
        have hfb2 : (f == 0) = false := by simpa using hf0
        subst hfe
        clear hf0
        go_wp2_with fail
        refine (alive_any _ (E.now hq4)).mono ?_
        rintro e w5 ⟨rfl, hq5⟩
        have hz := bel_then hq4 hq4.size hq5
        go_wp2_with fail
        go_ret
        exact ⟨rfl, hz⟩
      subst hf0
      by_cases hn1 : n < 1
      · have hni : (n : Int) < 1 := by omega
        clear hn1
        go_wp2_with fail
        refine (alive_any _ (E.now hq4)).mono ?_
        rintro e w5 ⟨rfl, hq5⟩
        have hz := bel_then hq4 hq4.size hq5
        go_wp2_with fail
        go_ret
        exact ⟨rfl, hz⟩
      have hni : ¬ (n : Int) < 1 := by omega
      by_cases hn2 : ls.length < n
      · have hni2 : (ls.length : Int) < (n : Int) := by omega
        clear hn1 hn2
        go_wp2_with fail
        refine (alive_any _ (E.now hq4)).mono ?_
        rintro e w5 ⟨rfl, hq5⟩
        have hz := bel_then hq4 hq4.size hq5
        go_wp2_with fail
        go_ret
        exact ⟨rfl, hz⟩
      have hni2 : ¬ (ls.length : Int) < (n : Int) := by omega
      have hn1' : 1 ≤ n := by omega
      have hn2' : n ≤ ls.length := by omega
      obtain ⟨hgood, htx, hk0, hsh⟩ := lines_ok HLL.out
      obtain ⟨tb, htb⟩ := join_take (join_lines HLL.out) (n - 1)
      obtain ⟨he4, pf1, pf2⟩ := tpar_first HLL.out HPP.out hn1' hn2'
      have hb1 := pf1 tb htb
      subst he4
      have htl := (lines_ok (lines_join htb)).2.2.2
      obtain ⟨⟨l2, k2, g2⟩, hp2⟩ : ∃ r, parT tb = r := ⟨_, rfl⟩
      have HP2 := Lib.hid fun W E => tparseC hp2 W E (by unfold maxLen; omega)
      rw [hp2] at hb1
      have hcs : cnt ls ≤ 10000 := by have := cnt_text ls hgood; rw [← htx] at this; omega
      have hls : ls.length ≤ 10000 := by have := lines_few ls; rw [← htx] at this; omega
      obtain ⟨b, off, A9, c9, hA, -⟩ := elL hrd (k := 0) (by omega)
      subst hA
      have htk : (ls.take (n - 1)).length = n - 1 := by rw [List.length_take]; omega
      have htk2 : (ls.take n).length = n := by rw [List.length_take]; omega
      have HJ : Hid (∀ W, RdS (cL cS) W (Lt W) (some ⟨b, off, none⟩) ls → Calls Tryz.prog 18 #[.slice (some ⟨b, off, none⟩) (n - 1) cap] W fun e w' => e = .returned (.tuple #[.string (bs tb), .int .i64 0]) ∧ Below W.heap.size W w') := Lib.hid fun W h => by
        have h2 := joinLC htb (some ⟨b, off, none⟩) cap W (h.take _) (by omega) (by have := cnt_take ls (n - 1); omega)
        rw [htk] at h2
        exact h2
      have hs1 : ∀ W, (Instr.slice 43 (.slice (some ⟨b, off, none⟩) ls.length cap) none (some (.int .i64 ((n : Int) - 1))) none).run Tryz.prog W = .ok (.slice (some ⟨b, off, none⟩) (n - 1) cap) W := slice_hi b off ls.length cap (n - 1) _ (by omega) (by omega)
      have hs2 : ∀ W, (Instr.slice 43 (.slice (some ⟨b, off, none⟩) ls.length cap) none (some (.int .i64 (n : Int))) none).run Tryz.prog W = .ok (.slice (some ⟨b, off, none⟩) n cap) W := slice_hi b off ls.length cap n _ rfl (by omega)
      obtain ⟨tl, htle⟩ : ∃ tl, ls.take n ++ more = tl := ⟨_, rfl⟩
      have hct : cnt tl ≤ 20000 := by
        rw [← htle, cnt_app]
        have h1 := cnt_take ls n
        have h2 := cnt_few more 100 HM.out
        omega
      have htll : tl.length ≤ 20000 := by rw [← htle, List.length_append, htk2]; omega
      have hnl : n + more.length ≤ 100000 := by omega
      obtain ⟨⟨tt, hx⟩, hjt⟩ : ∃ r, joinF tl = r := ⟨_, rfl⟩
      have HRJ := Lib.hid fun A c W h => rjoinLC hjt A c W h (by omega) (by omega)
      have HFIN : Hid (hx = 0 → ∃ l3, parT tt = (l3, n, 4)) := Lib.hid fun h0 => by
        subst h0
        have h1 := pf2 more tt (by rw [htle]; exact hjt)
        exact ⟨(parT tt).1, Prod.ext rfl h1⟩
      have HTT : Hid (hx = 0 → tt.length ≤ 32768) := Lib.hid fun h0 => by
        subst h0
        exact (lines_ok (lines_join hjt)).2.2.2
      have hn32 : (n : Int) ≤ 10000 := by omega
      have hnp : (0 : Int) ≤ (n : Int) - 1 := by omega
      have HTLE := Lib.hid htle
      have hbr : ((1 : Int) < (n : Int) ∧ ((k2 : Int) != 0) = false ∧ ((n : Int) == 1) = false) ∨ (¬ (1 : Int) < (n : Int) ∧ ((n : Int) == 1) = true ∧ ((k2 : Int) != 1) = false ∧ (g2 != 4) = false) := by
        by_cases h1 : 1 < n
        · have h2 := hb1.1 h1
          simp only at h2
          exact Or.inl ⟨by omega, by simp [h2], by simp; omega⟩
        · have h2 := hb1.2 (by show n = 1; omega)
          simp only [Prod.mk.injEq] at h2
          exact Or.inr ⟨by omega, by simp; omega, by simp [h2.1], by simp [h2.2]⟩
      have HTK2 := Lib.hid htk2
      have hone := fun (w : World) => ls_one (S := fun b => b < w.heap.size) (w := w)
      clear hgood htx hk0 hsh htb pf1 pf2 hb1 htl hp2 htk htk2 hjt htle hn1 hn2
      have hln0 : (0 : Int) ≤ (n : Int) := by omega
      rcases hbr with ⟨t1, t2, t3⟩ | ⟨t1, t2, t3, t4⟩
      all_goals (
        go_wp2_with fail
        refine (HJ.out _ hrd).mono ?_
        rintro e w5 ⟨rfl, hq5⟩
        have hq6 := bel_then hq4 hq4.size hq5
        have hrd5 := hrd.now hq5
        go_wp2_with fail
        refine (HP2.out _ (E.now hq6)).mono ?_
        rintro e w7 ⟨v2, -, rfl, -, hq7⟩
        have hq8 := hq7.alloc hq7.size (.cells #[.slice v2.A1 v2.t.rts.length v2.c1, .slice v2.A2 v2.t.pts.length v2.c2, .slice v2.A3 v2.t.homes.length v2.c3, .int .i64 v2.t.nsec, .int .i64 v2.t.nsig] 25)
        have hq9 := bel_then hq6 hq6.size hq8
        have hrd9 := hrd5.now hq8
        unfold tvA
        clear hq4 hq5 hq6 hq7 hq8 hrd hrd5
        have hal := (Below.refl (w7.alloc (.cells #[.slice v2.A1 v2.t.rts.length v2.c1, .slice v2.A2 v2.t.pts.length v2.c2, .slice v2.A3 v2.t.homes.length v2.c3, .int .i64 v2.t.nsec, .int .i64 v2.t.nsig] 25)).heap.size (w7.alloc (.cells #[.slice v2.A1 v2.t.rts.length v2.c1, .slice v2.A2 v2.t.pts.length v2.c2, .slice v2.A3 v2.t.homes.length v2.c3, .int .i64 v2.t.nsec, .int .i64 v2.t.nsig] 25))).alloc (Nat.le_refl _) (.cells #[] 46)
        have hown0 : LowR (cL cS) ((w7.alloc (.cells #[.slice v2.A1 v2.t.rts.length v2.c1, .slice v2.A2 v2.t.pts.length v2.c2, .slice v2.A3 v2.t.homes.length v2.c3, .int .i64 v2.t.nsec, .int .i64 v2.t.nsig] 25)).alloc (.cells #[] 46)) (w7.heap.size + 1) 46 (.slice (some ⟨w7.heap.size + 1, 0, none⟩) 0 0) [] := by
          have h := LowR.empty (cL cS) (w7.alloc (.cells #[.slice v2.A1 v2.t.rts.length v2.c1, .slice v2.A2 v2.t.pts.length v2.c2, .slice v2.A3 v2.t.homes.length v2.c3, .int .i64 v2.t.nsec, .int .i64 v2.t.nsig] 25)) 46
          rw [World.size_alloc] at h
          exact h
        have hsz7 : w.heap.size ≤ w7.heap.size + 1 := by have h := hq9.size; rw [World.size_alloc] at h; exact h
        have hra := rds_base (hrd9.take n) hal (w7.heap.size + 1) (by rw [World.size_alloc]; exact Nat.le_refl _)
        have hrb := rds_base (HR.out.now hq9) hal (w7.heap.size + 1) (by rw [World.size_alloc]; exact Nat.le_refl _)
        have hqa := bel_then hq9 hq9.size hal
        clear hrd9 hal hq9
        go_wp2_with (at_builtin; first
          | (refine wpList_append_low (c := cL cS) _ rfl _ _ 43 rfl (w7.heap.size + 1) 46 j0 _ 24 Tryz.underlying43 hj0 hy0 hy1 hy2 rfl (by decide) _ [] (by rfl) hown0 (some ⟨b, off, none⟩) cap (ls.take n) (by rw [HTK2.out]; rfl) hra ls_one (by rw [HTK2.out]; simp; omega) (by omega) ?_; intro va wa hla hba)
          | (refine wpList_append_low (c := cL cS) _ rfl _ _ 43 rfl (w7.heap.size + 1) 46 j0 _ 24 Tryz.underlying43 hj0 hy0 hy1 hy2 rfl (by decide) va _ (by rfl) hla A1 c1 more (by rfl) (hrb.low hba) ls_one (by rw [List.nil_append, HTK2.out]; omega) (by omega) ?_; intro vb wb hlb hbb; rw [List.nil_append, HTLE.out] at hlb; obtain ⟨Ab, cb, rfl, hcb, hrj⟩ := hlb.reads))
        refine (HRJ.out Ab cb _ hrj).mono ?_
        rintro e wc ⟨rfl, rfl⟩
        have hqb : Below w.heap.size w wb := hqa.trans ((hba.trans hbb).mono hsz7)
        clear hqa hba hbb hla hlb hra hrb hown0 hrj
        by_cases hx0 : hx = 0
        case neg =>
          have hxb : (hx != 0) = true := by simpa using hx0
          clear hx0 HFIN HTT HRJ
          go_wp2_with fail
          refine (alive_any _ (E.now hqb)).mono ?_
          rintro e wd ⟨rfl, hqd⟩
          have hz := bel_then hqb hqb.size hqd
          go_wp2_with fail
          go_ret
          exact ⟨rfl, hz⟩
        subst hx0
        obtain ⟨l3, hl3⟩ := HFIN.out rfl
        have htt := HTT.out rfl
        have HP3 := Lib.hid fun W E => tparseC hl3 W E (by unfold maxLen; omega)
        clear hl3 HFIN HTT HRJ
        by_cases h1t : 20000 < tt.length
        · have h1i : (20000 : Int) < (tt.length : Int) := by omega
          clear h1t
          go_wp2_with fail
          refine (alive_any _ (E.now hqb)).mono ?_
          rintro e wd ⟨rfl, hqd⟩
          have hz := bel_then hqb hqb.size hqd
          go_wp2_with fail
          go_ret
          exact ⟨rfl, hz⟩
        · have h1i : ¬ (20000 : Int) < (tt.length : Int) := by omega
          clear h1t
          go_wp2_with fail
          refine (HP3.out _ (E.now hqb)).mono ?_
          rintro e wd ⟨v3, -, rfl, -, hqd⟩
          have hqe := hqd.alloc hqd.size (.cells #[.slice v3.A1 v3.t.rts.length v3.c1, .slice v3.A2 v3.t.pts.length v3.c2, .slice v3.A3 v3.t.homes.length v3.c3, .int .i64 v3.t.nsec, .int .i64 v3.t.nsig] 25)
          have hqf := bel_then hqb hqb.size hqe
          unfold tvA
          clear hqb hqd hqe
          go_wp2_with fail
          refine (alive_any _ (E.now hqf)).mono ?_
          rintro e wg ⟨rfl, hqg⟩
          have hz := bel_then hqf hqf.size hqg
          go_wp2_with fail
          go_ret
          exact ⟨rfl, hz⟩)
end Go.Proofs.YtlblfblkallnhaaGreatDoor
