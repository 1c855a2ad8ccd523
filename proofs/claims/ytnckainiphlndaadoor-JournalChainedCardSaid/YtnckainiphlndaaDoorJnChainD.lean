/- The walk of the law JournalChained: whatever the texts and the change, the law returns true. -/
import Derived.Test.YtnckainiphlndaaDoorJnChainC
import Derived.IntWalk
import Derived.Lib.LazyBuf
namespace Go.Proofs.YtnckainiphlndaaDoor
set_option linter.unusedVariables false
set_option linter.unusedSimpArgs false
open Go.RowKit
attribute [local go_sem] bs_size bs_get bs_append bs_extract bs_toList
set_option maxRecDepth 100000 in
set_option maxHeartbeats 8000000 in
theorem journalChained_walk (ts : List (List UInt8)) (A : Option Addr) (cap : Nat) (x : Chg) (w : World) (E : Env w) (hr : RdS cS w (Lt w) A ts) (hl : ts.length ≤ maxLen) (hcap : ts.length ≤ cap) (hx : chgO x) :
    Calls Tryd.prog 4 #[.slice A ts.length cap, .agg (chgV x).toArray] w (True1 w) := by
  obtain ⟨n, hn, hmin⟩ := min60 ts.length
  obtain ⟨a, ha, hand⟩ := and1023_nat x.pos
  have hu : (ts.take 60).length = n := by rw [List.length_take]; omega
  have hru : RdS cS w (Lt w) A (ts.take 60) := hr.take 60
  have hfacts := madeF_facts (ts.take 60)
  have hmade := fun W (E : Env W) (h : RdS cS W (Lt W) A (ts.take 60)) (c : Nat) => made_any (ts.take 60) A c W E h (by omega)
  rw [hu] at hmade hfacts
  generalize ts.take 60 = us at hru hfacts hmade hu
  clear hr
  have HFIT : Hid (∀ y ∈ madeF us, y.text.length ≤ 140737488351232) := Lib.hid (fun y hy => by have := (verG_ok _ 0 0 0 hfacts.1 y hy).2.1; have := (legB_iff.1 this).1.2; omega)
  generalize madeF us = j at hfacts hmade HFIT
  obtain ⟨hv, hjl, htot⟩ := hfacts
  have hn60 : n ≤ 60 := by omega
  have hncap : n ≤ cap := by omega
  unfold chgO chgV at *
  obtain ⟨⟨hp, hkd⟩, hxt, hxl, hxs⟩ := hx
  unfold maxLen at hxl
  unfold I64n at hp hkd
  generalize ts.length = tl at hl hcap hn hmin ⊢
  clear htot
  have HU := Lib.hid hu
  have HN := Lib.hid hn
  clear hu hn
  unfold maxLen at hl
  have hnI : (0 : Int) ≤ (n : Int) := by omega
  have hnc : (n : Int) ≤ (cap : Int) := by omega
  go_enter Tryd.func4, Tryd.ntmps4
  go_wp2_with fail
  have hb0 : Below w.heap.size w (w.alloc (.cells #[.int .i64 x.pos, .int .i64 x.kind, .int .i64 x.time, .string (bs x.text), .int .u64 (x.sum : Int)] 34)) := (Below.refl _ _).alloc (Nat.le_refl _) _
  have hblk0 : Blk (w.alloc (.cells #[.int .i64 x.pos, .int .i64 x.kind, .int .i64 x.time, .string (bs x.text), .int .u64 (x.sum : Int)] 34)) w.heap.size 34 #[.int .i64 x.pos, .int .i64 x.kind, .int .i64 x.time, .string (bs x.text), .int .u64 (x.sum : Int)] := Blk.new _ _ _ _ rfl
  refine (hmade _ (E.now hb0) (hru.now hb0) cap).mono ?_
  rintro e w1 ⟨A1, c1, rfl, ⟨hj1, hj2⟩, hr1, hb1⟩
--A
  have hblk1 := hblk0.now hb1
  have hB1 := bel_then hb0 hb0.size hb1
  have E1 := E.now hB1
  have hz1 := hB1.size
  clear hb0 hblk0 hb1 hru hmade
  unfold maxLen at hj1
  have x0 : w1.cell? ⟨w.heap.size, 0, none⟩ = some (.int .i64 x.pos) := hblk1.cell 0
  have x1 : w1.cell? ⟨w.heap.size, 1, none⟩ = some (.int .i64 x.kind) := hblk1.cell 1
  have x2 : w1.cell? ⟨w.heap.size, 2, none⟩ = some (.int .i64 x.time) := hblk1.cell 2
  have x3 : w1.cell? ⟨w.heap.size, 3, none⟩ = some (.string (bs x.text)) := hblk1.cell 3
  have x4 : w1.cell? ⟨w.heap.size, 4, none⟩ = some (.int .u64 (x.sum : Int)) := hblk1.cell 4
  have hgl : w.heap.size < w1.heap.size := hblk1.lt
--B
  by_cases hj0 : j.length = 0
  · have hd : ((j.length : Int) == 0) = true := by rw [beq_iff_eq]; omega
    go_wp2_with fail
    refine (jalive_any _ E1).mono ?_
    rintro e w2 ⟨rfl, hb2⟩
    go_wp2_with fail
    go_ret
    exact ⟨rfl, bel_then hB1 hB1.size hb2⟩
--C
  have hd : ((j.length : Int) == 0) = false := by rw [beq_eq_false_iff_ne]; omega
  cases hfw : fewB j with
  | false =>
    go_wp2_with fail
    refine (fewC hfw A1 c1 _ hr1 (by unfold maxLen; omega) (fun y hy => HFIT.out y hy)).mono ?_
    rintro e w2 ⟨rfl, hb2⟩
    have hB2 := bel_then hB1 hB1.size hb2
    go_wp2_with fail
    refine (jalive_any _ (E1.now hb2)).mono ?_
    rintro e w3 ⟨rfl, hb3⟩
    go_wp2_with fail
    go_ret
    exact ⟨rfl, bel_then hB2 hB2.size hb3⟩
  | true =>
    by_cases h3 : 3000 < x.text.length
    · go_wp2_with fail
      refine (fewC hfw A1 c1 _ hr1 (by unfold maxLen; omega) (fun y hy => HFIT.out y hy)).mono ?_
      rintro e w2 ⟨rfl, hb2⟩
      have hB2 := bel_then hB1 hB1.size hb2
      have y3 := (hblk1.now hb2).cell 3
      go_wp2_with fail
      refine (jalive_any _ (E1.now hb2)).mono ?_
      rintro e w3 ⟨rfl, hb3⟩
      go_wp2_with fail
      go_ret
      exact ⟨rfl, bel_then hB2 hB2.size hb3⟩
--E
    obtain ⟨i, hi⟩ : ∃ i : Nat, i = a % j.length := ⟨_, rfl⟩
    have hij : i < j.length := by rw [hi]; exact Nat.mod_lt _ (by omega)
    have hii : ((a : Int)).tmod (j.length : Int) = (i : Int) := by rw [Int.tmod_eq_emod_of_nonneg (by omega), hi]; omega
    have hie : (a : Int) % (j.length : Int) = (i : Int) := by rw [hi]; omega
    have HI := Lib.hid hi
    clear hi
    obtain ⟨i0, hi0, hz0, hz1', hz2⟩ := info_parts infoE
    go_wp2_with fail
    refine (fewC hfw A1 c1 _ hr1 (by unfold maxLen; omega) (fun y hy => HFIT.out y hy)).mono ?_
    rintro e w2 ⟨rfl, hb2⟩
    have hr2 := hr1.now hb2
    have hblk2 := hblk1.now hb2
    have hB2 := bel_then hB1 hB1.size hb2
    have E2 := E1.now hb2
    have hz2w := hB2.size
    clear hr1 hblk1 hB1 E1 hb2 x0 x1 x2 x3 x4
    have x0 : w2.cell? ⟨w.heap.size, 0, none⟩ = some (.int .i64 x.pos) := hblk2.cell 0
    have x1 : w2.cell? ⟨w.heap.size, 1, none⟩ = some (.int .i64 x.kind) := hblk2.cell 1
    have x2 : w2.cell? ⟨w.heap.size, 2, none⟩ = some (.int .i64 x.time) := hblk2.cell 2
    have x3 : w2.cell? ⟨w.heap.size, 3, none⟩ = some (.string (bs x.text)) := hblk2.cell 3
    have x4 : w2.cell? ⟨w.heap.size, 4, none⟩ = some (.int .u64 (x.sum : Int)) := hblk2.cell 4
    go_upto_region 5 with (fail)
--F
    have hent := ent_all hr2
    obtain ⟨b, off, rfl, hb2, _⟩ := hr2 (by omega)
    have hjL : j.length ≤ 60 := by omega
    rcases and3_cases x.kind with (hk3 | hk3) | (hk3 | hk3)
    · -- CASE0
      go_upto_region 16 with (at_builtin; refine wpList_append_grows _ rfl _ _ 22 rfl 37 i0 _ 3 32 Tryd.underlying22 hi0 hz0 hz1' hz2 rfl (by decide) _ 0 0 [] rfl (fun _ => ⟨rfl, rfl⟩) rfl (fun _ _ j u h => by simp at h) ⟨b, off, none⟩ j.length c1 (cellsE j) rfl (cellsE_len j) (rds_cells (hr2.now (by (repeat' (first | (with_reducible exact Below.refl _ _) | (with_reducible assumption) | (with_reducible refine Below.drewN ?_ _) | (with_reducible refine Below.drew ?_) | (with_reducible refine Below.alloc ?_ ?_ _) | (with_reducible refine Below.setCell ?_ ?_ _) | (with_reducible exact Nat.le_refl _) | (with_reducible exact Below.size (by assumption)) | omega | (simp only [World.size_alloc, World.size_setCell, World.size_drew]; omega) | (simp; done) | (simp; omega))))) rfl) (cellsE_cell j) (by omega) (by unfold maxLen; omega) (by omega) ?_; intro v' w3 hown hgrow; rw [Nat.zero_add, List.nil_append] at hown; obtain ⟨g, kc, rfl, hgb, hk⟩ := KRow.of_own hown (by omega) hent; have hb3 : Below w2.heap.size w2 w3 := ((Below.refl _ _).alloc (Nat.le_refl _) _).grown hgrow (by simp) (fun k hk => by cases hk); have hblk3 := hblk2.now hb3; have y1 : w3.cell? ⟨w.heap.size, 1, none⟩ = some (.int .i64 x.kind) := hblk3.cell 1; have y2 : w3.cell? ⟨w.heap.size, 2, none⟩ = some (.int .i64 x.time) := hblk3.cell 2; have y3 : w3.cell? ⟨w.heap.size, 3, none⟩ = some (.string (bs x.text)) := hblk3.cell 3; have y4 : w3.cell? ⟨w.heap.size, 4, none⟩ = some (.int .u64 (x.sum : Int)) := hblk3.cell 4; have hg2 : w2.heap.size ≤ g := (by simp at hgb; omega); obtain ⟨⟨z0, z1, z2⟩, hfz⟩ := hk.at hij; have hf0 := hfz (i * 3); have hf1 := hfz (i * 3 + 1); have hf2 := hfz (i * 3 + 2); clear hgb hown)
      have hk4 := hk.set (i := i) (f := 1) (x := ⟨j[i].time, x.text, j[i].sum⟩) (u := .string (bs x.text)) hij (by decide) rfl ⟨(hent _ (List.getElem_mem hij)).1, by unfold maxLen; exact hxl, (hent _ (List.getElem_mem hij)).2.2⟩
      have hb4 := hb3.setCell (p := ⟨g, i * 3 + 1, none⟩) (by exact hg2) (.string (bs x.text))
      have hkl : (j.set i ⟨j[i].time, x.text, j[i].sum⟩).length = j.length := List.length_set
      have hver := verF_set (i := i) ⟨j[i].time, x.text, j[i].sum⟩ hij hv
      generalize hK : j.set i ⟨j[i].time, x.text, j[i].sum⟩ = K at *
      clear hK
      generalize w3.setCell ⟨g, i * 3 + 1, none⟩ (.string (bs x.text)) = w4 at *
      clear hblk3 hblk2 y1 y2 y3 y4 x0 x1 x2 x3 x4 hf0 hf1 hf2 hfz z0 z1 z2 hk hb3
      -- tail: K, hk4 : KRow w4 .., hkl : K.length = j.length, hvk
      have hr4 := hr2.now hb4
      have E4 := E2.now hb4
      have hB4 := bel_then hB2 hz2w hb4
      have hrk := hk4.rds
      have hkc := hk4.cap_le
      rw [hkl] at hkc
      obtain ⟨v, hvk⟩ : ∃ v, verF K = v := ⟨_, rfl⟩
      have hnn : j.length ≤ 600 := by omega
      have hkc1 := hkc.1
      have HV := Lib.hid hvk
      rw [hvk] at hver
      clear hvk
      by_cases hjk : j = K
      · have hv1 : v = -1 := by rw [← HV.out, ← hjk]; exact hv
        subst hv1
        have hdd : decide (j = K) = true := decide_eq_true hjk
        have HD := Lib.hid hdd
        clear hdd hjk
        go_wp2_with fail
        refine (jsameN HD.out hkl _ _ _ _ _ hr4 hrk (by omega) hnn).mono ?_
        rintro e w5 ⟨rfl, hb5⟩
        have hB5 := bel_then hB4 hB4.size hb5
        go_wp2_with fail
        refine (verifyN HV.out hkl _ _ _ (E4.now hb5) (hrk.now hb5) hnn hkc1).mono ?_
        rintro e w6 ⟨rfl, hb6⟩
        have hB6 := bel_then hB5 hB5.size hb6
        go_wp2_with fail
        refine (jalive_any _ ((E4.now hb5).now hb6)).mono ?_
        rintro e w7 ⟨rfl, hb7⟩
        go_wp2_with fail
        go_ret
        exact ⟨rfl, bel_then hB6 hB6.size hb7⟩
      · have HD : Hid (decide (j = K) = false) := Lib.hid (decide_eq_false hjk)
        clear hjk
        rcases hver with hver | ⟨hv1, hv2⟩
        · subst hver
          go_wp2_with fail
          refine (jsameN HD.out hkl _ _ _ _ _ hr4 hrk (by omega) hnn).mono ?_
          rintro e w5 ⟨rfl, hb5⟩
          have hB5 := bel_then hB4 hB4.size hb5
          go_wp2_with fail
          refine (verifyN HV.out hkl _ _ _ (E4.now hb5) (hrk.now hb5) hnn hkc1).mono ?_
          rintro e w6 ⟨rfl, hb6⟩
          have hB6 := bel_then hB5 hB5.size hb6
          go_wp2_with fail
          refine (rverifyN HV.out hkl _ _ _ ((E4.now hb5).now hb6) ((hrk.now hb5).now hb6) hnn hkc1).mono ?_
          rintro e w7 ⟨rfl, hb7⟩
          have hB7 := bel_then hB6 hB6.size hb7
          go_wp2_with fail
          refine (rverifyN HV.out hkl _ _ _ (((E4.now hb5).now hb6).now hb7) (((hrk.now hb5).now hb6).now hb7) hnn hkc1).mono ?_
          rintro e w8 ⟨rfl, hb8⟩
          have hB8 := bel_then hB7 hB7.size hb8
          go_wp2_with fail
          refine (jalive_any _ ((((E4.now hb5).now hb6).now hb7).now hb8)).mono ?_
          rintro e w9 ⟨rfl, hb9⟩
          go_wp2_with fail
          go_ret
          exact ⟨rfl, bel_then hB8 hB8.size hb9⟩
        · go_wp2_with fail
          refine (jsameN HD.out hkl _ _ _ _ _ hr4 hrk (by omega) hnn).mono ?_
          rintro e w5 ⟨rfl, hb5⟩
          have hB5 := bel_then hB4 hB4.size hb5
          go_wp2_with fail
          refine (verifyN HV.out hkl _ _ _ (E4.now hb5) (hrk.now hb5) hnn hkc1).mono ?_
          rintro e w6 ⟨rfl, hb6⟩
          have hB6 := bel_then hB5 hB5.size hb6
          go_wp2_with fail
          refine (rverifyN HV.out hkl _ _ _ ((E4.now hb5).now hb6) ((hrk.now hb5).now hb6) hnn hkc1).mono ?_
          rintro e w7 ⟨rfl, hb7⟩
          have hB7 := bel_then hB6 hB6.size hb7
          go_wp2_with fail
          refine (jalive_any _ (((E4.now hb5).now hb6).now hb7)).mono ?_
          rintro e w8 ⟨rfl, hb8⟩
          go_wp2_with fail
          go_ret
          exact ⟨rfl, bel_then hB7 hB7.size hb8⟩
    · -- CASE1
      go_upto_region 16 with (at_builtin; refine wpList_append_grows _ rfl _ _ 22 rfl 37 i0 _ 3 32 Tryd.underlying22 hi0 hz0 hz1' hz2 rfl (by decide) _ 0 0 [] rfl (fun _ => ⟨rfl, rfl⟩) rfl (fun _ _ j u h => by simp at h) ⟨b, off, none⟩ j.length c1 (cellsE j) rfl (cellsE_len j) (rds_cells (hr2.now (by (repeat' (first | (with_reducible exact Below.refl _ _) | (with_reducible assumption) | (with_reducible refine Below.drewN ?_ _) | (with_reducible refine Below.drew ?_) | (with_reducible refine Below.alloc ?_ ?_ _) | (with_reducible refine Below.setCell ?_ ?_ _) | (with_reducible exact Nat.le_refl _) | (with_reducible exact Below.size (by assumption)) | omega | (simp only [World.size_alloc, World.size_setCell, World.size_drew]; omega) | (simp; done) | (simp; omega))))) rfl) (cellsE_cell j) (by omega) (by unfold maxLen; omega) (by omega) ?_; intro v' w3 hown hgrow; rw [Nat.zero_add, List.nil_append] at hown; obtain ⟨g, kc, rfl, hgb, hk⟩ := KRow.of_own hown (by omega) hent; have hb3 : Below w2.heap.size w2 w3 := ((Below.refl _ _).alloc (Nat.le_refl _) _).grown hgrow (by simp) (fun k hk => by cases hk); have hblk3 := hblk2.now hb3; have y1 : w3.cell? ⟨w.heap.size, 1, none⟩ = some (.int .i64 x.kind) := hblk3.cell 1; have y2 : w3.cell? ⟨w.heap.size, 2, none⟩ = some (.int .i64 x.time) := hblk3.cell 2; have y3 : w3.cell? ⟨w.heap.size, 3, none⟩ = some (.string (bs x.text)) := hblk3.cell 3; have y4 : w3.cell? ⟨w.heap.size, 4, none⟩ = some (.int .u64 (x.sum : Int)) := hblk3.cell 4; have hg2 : w2.heap.size ≤ g := (by simp at hgb; omega); obtain ⟨⟨z0, z1, z2⟩, hfz⟩ := hk.at hij; have hf0 := hfz (i * 3); have hf1 := hfz (i * 3 + 1); have hf2 := hfz (i * 3 + 2); clear hgb hown)
      have hk4 := hk.set (i := i) (f := 0) (x := ⟨x.time, j[i].text, j[i].sum⟩) (u := .int .i64 x.time) hij (by decide) rfl ⟨hxt, (hent _ (List.getElem_mem hij)).2⟩
      have hb4 := hb3.setCell (p := ⟨g, i * 3 + 0, none⟩) (by exact hg2) (.int .i64 x.time)
      have hkl : (j.set i ⟨x.time, j[i].text, j[i].sum⟩).length = j.length := List.length_set
      have hver := verF_set (i := i) ⟨x.time, j[i].text, j[i].sum⟩ hij hv
      generalize hK : j.set i ⟨x.time, j[i].text, j[i].sum⟩ = K at *
      clear hK
      generalize w3.setCell ⟨g, i * 3 + 0, none⟩ (.int .i64 x.time) = w4 at *
      clear hblk3 hblk2 y1 y2 y3 y4 x0 x1 x2 x3 x4 hf0 hf1 hf2 hfz z0 z1 z2 hk hb3
      -- tail: K, hk4 : KRow w4 .., hkl : K.length = j.length, hvk
      have hr4 := hr2.now hb4
      have E4 := E2.now hb4
      have hB4 := bel_then hB2 hz2w hb4
      have hrk := hk4.rds
      have hkc := hk4.cap_le
      rw [hkl] at hkc
      obtain ⟨v, hvk⟩ : ∃ v, verF K = v := ⟨_, rfl⟩
      have hnn : j.length ≤ 600 := by omega
      have hkc1 := hkc.1
      have HV := Lib.hid hvk
      rw [hvk] at hver
      clear hvk
      by_cases hjk : j = K
      · have hv1 : v = -1 := by rw [← HV.out, ← hjk]; exact hv
        subst hv1
        have hdd : decide (j = K) = true := decide_eq_true hjk
        have HD := Lib.hid hdd
        clear hdd hjk
        go_wp2_with fail
        refine (jsameN HD.out hkl _ _ _ _ _ hr4 hrk (by omega) hnn).mono ?_
        rintro e w5 ⟨rfl, hb5⟩
        have hB5 := bel_then hB4 hB4.size hb5
        go_wp2_with fail
        refine (verifyN HV.out hkl _ _ _ (E4.now hb5) (hrk.now hb5) hnn hkc1).mono ?_
        rintro e w6 ⟨rfl, hb6⟩
        have hB6 := bel_then hB5 hB5.size hb6
        go_wp2_with fail
        refine (jalive_any _ ((E4.now hb5).now hb6)).mono ?_
        rintro e w7 ⟨rfl, hb7⟩
        go_wp2_with fail
        go_ret
        exact ⟨rfl, bel_then hB6 hB6.size hb7⟩
      · have HD : Hid (decide (j = K) = false) := Lib.hid (decide_eq_false hjk)
        clear hjk
        rcases hver with hver | ⟨hv1, hv2⟩
        · subst hver
          go_wp2_with fail
          refine (jsameN HD.out hkl _ _ _ _ _ hr4 hrk (by omega) hnn).mono ?_
          rintro e w5 ⟨rfl, hb5⟩
          have hB5 := bel_then hB4 hB4.size hb5
          go_wp2_with fail
          refine (verifyN HV.out hkl _ _ _ (E4.now hb5) (hrk.now hb5) hnn hkc1).mono ?_
          rintro e w6 ⟨rfl, hb6⟩
          have hB6 := bel_then hB5 hB5.size hb6
          go_wp2_with fail
          refine (rverifyN HV.out hkl _ _ _ ((E4.now hb5).now hb6) ((hrk.now hb5).now hb6) hnn hkc1).mono ?_
          rintro e w7 ⟨rfl, hb7⟩
          have hB7 := bel_then hB6 hB6.size hb7
          go_wp2_with fail
          refine (rverifyN HV.out hkl _ _ _ (((E4.now hb5).now hb6).now hb7) (((hrk.now hb5).now hb6).now hb7) hnn hkc1).mono ?_
          rintro e w8 ⟨rfl, hb8⟩
          have hB8 := bel_then hB7 hB7.size hb8
          go_wp2_with fail
          refine (jalive_any _ ((((E4.now hb5).now hb6).now hb7).now hb8)).mono ?_
          rintro e w9 ⟨rfl, hb9⟩
          go_wp2_with fail
          go_ret
          exact ⟨rfl, bel_then hB8 hB8.size hb9⟩
        · go_wp2_with fail
          refine (jsameN HD.out hkl _ _ _ _ _ hr4 hrk (by omega) hnn).mono ?_
          rintro e w5 ⟨rfl, hb5⟩
          have hB5 := bel_then hB4 hB4.size hb5
          go_wp2_with fail
          refine (verifyN HV.out hkl _ _ _ (E4.now hb5) (hrk.now hb5) hnn hkc1).mono ?_
          rintro e w6 ⟨rfl, hb6⟩
          have hB6 := bel_then hB5 hB5.size hb6
          go_wp2_with fail
          refine (rverifyN HV.out hkl _ _ _ ((E4.now hb5).now hb6) ((hrk.now hb5).now hb6) hnn hkc1).mono ?_
          rintro e w7 ⟨rfl, hb7⟩
          have hB7 := bel_then hB6 hB6.size hb7
          go_wp2_with fail
          refine (jalive_any _ (((E4.now hb5).now hb6).now hb7)).mono ?_
          rintro e w8 ⟨rfl, hb8⟩
          go_wp2_with fail
          go_ret
          exact ⟨rfl, bel_then hB7 hB7.size hb8⟩
    · -- CASE2
      go_upto_region 16 with (at_builtin; refine wpList_append_grows _ rfl _ _ 22 rfl 37 i0 _ 3 32 Tryd.underlying22 hi0 hz0 hz1' hz2 rfl (by decide) _ 0 0 [] rfl (fun _ => ⟨rfl, rfl⟩) rfl (fun _ _ j u h => by simp at h) ⟨b, off, none⟩ j.length c1 (cellsE j) rfl (cellsE_len j) (rds_cells (hr2.now (by (repeat' (first | (with_reducible exact Below.refl _ _) | (with_reducible assumption) | (with_reducible refine Below.drewN ?_ _) | (with_reducible refine Below.drew ?_) | (with_reducible refine Below.alloc ?_ ?_ _) | (with_reducible refine Below.setCell ?_ ?_ _) | (with_reducible exact Nat.le_refl _) | (with_reducible exact Below.size (by assumption)) | omega | (simp only [World.size_alloc, World.size_setCell, World.size_drew]; omega) | (simp; done) | (simp; omega))))) rfl) (cellsE_cell j) (by omega) (by unfold maxLen; omega) (by omega) ?_; intro v' w3 hown hgrow; rw [Nat.zero_add, List.nil_append] at hown; obtain ⟨g, kc, rfl, hgb, hk⟩ := KRow.of_own hown (by omega) hent; have hb3 : Below w2.heap.size w2 w3 := ((Below.refl _ _).alloc (Nat.le_refl _) _).grown hgrow (by simp) (fun k hk => by cases hk); have hblk3 := hblk2.now hb3; have y1 : w3.cell? ⟨w.heap.size, 1, none⟩ = some (.int .i64 x.kind) := hblk3.cell 1; have y2 : w3.cell? ⟨w.heap.size, 2, none⟩ = some (.int .i64 x.time) := hblk3.cell 2; have y3 : w3.cell? ⟨w.heap.size, 3, none⟩ = some (.string (bs x.text)) := hblk3.cell 3; have y4 : w3.cell? ⟨w.heap.size, 4, none⟩ = some (.int .u64 (x.sum : Int)) := hblk3.cell 4; have hg2 : w2.heap.size ≤ g := (by simp at hgb; omega); obtain ⟨⟨z0, z1, z2⟩, hfz⟩ := hk.at hij; have hf0 := hfz (i * 3); have hf1 := hfz (i * 3 + 1); have hf2 := hfz (i * 3 + 2); clear hgb hown)
      have hk4 := hk.set (i := i) (f := 2) (x := ⟨j[i].time, j[i].text, x.sum⟩) (u := .int .u64 (x.sum : Int)) hij (by decide) rfl ⟨(hent _ (List.getElem_mem hij)).1, (hent _ (List.getElem_mem hij)).2.1, hxs⟩
      have hb4 := hb3.setCell (p := ⟨g, i * 3 + 2, none⟩) (by exact hg2) (.int .u64 (x.sum : Int))
      have hkl : (j.set i ⟨j[i].time, j[i].text, x.sum⟩).length = j.length := List.length_set
      have hver := verF_set (i := i) ⟨j[i].time, j[i].text, x.sum⟩ hij hv
      generalize hK : j.set i ⟨j[i].time, j[i].text, x.sum⟩ = K at *
      clear hK
      generalize w3.setCell ⟨g, i * 3 + 2, none⟩ (.int .u64 (x.sum : Int)) = w4 at *
      clear hblk3 hblk2 y1 y2 y3 y4 x0 x1 x2 x3 x4 hf0 hf1 hf2 hfz z0 z1 z2 hk hb3
      -- tail: K, hk4 : KRow w4 .., hkl : K.length = j.length, hvk
      have hr4 := hr2.now hb4
      have E4 := E2.now hb4
      have hB4 := bel_then hB2 hz2w hb4
      have hrk := hk4.rds
      have hkc := hk4.cap_le
      rw [hkl] at hkc
      obtain ⟨v, hvk⟩ : ∃ v, verF K = v := ⟨_, rfl⟩
      have hnn : j.length ≤ 600 := by omega
      have hkc1 := hkc.1
      have HV := Lib.hid hvk
      rw [hvk] at hver
      clear hvk
      by_cases hjk : j = K
      · have hv1 : v = -1 := by rw [← HV.out, ← hjk]; exact hv
        subst hv1
        have hdd : decide (j = K) = true := decide_eq_true hjk
        have HD := Lib.hid hdd
        clear hdd hjk
        go_wp2_with fail
        refine (jsameN HD.out hkl _ _ _ _ _ hr4 hrk (by omega) hnn).mono ?_
        rintro e w5 ⟨rfl, hb5⟩
        have hB5 := bel_then hB4 hB4.size hb5
        go_wp2_with fail
        refine (verifyN HV.out hkl _ _ _ (E4.now hb5) (hrk.now hb5) hnn hkc1).mono ?_
        rintro e w6 ⟨rfl, hb6⟩
        have hB6 := bel_then hB5 hB5.size hb6
        go_wp2_with fail
        refine (jalive_any _ ((E4.now hb5).now hb6)).mono ?_
        rintro e w7 ⟨rfl, hb7⟩
        go_wp2_with fail
        go_ret
        exact ⟨rfl, bel_then hB6 hB6.size hb7⟩
      · have HD : Hid (decide (j = K) = false) := Lib.hid (decide_eq_false hjk)
        clear hjk
        rcases hver with hver | ⟨hv1, hv2⟩
        · subst hver
          go_wp2_with fail
          refine (jsameN HD.out hkl _ _ _ _ _ hr4 hrk (by omega) hnn).mono ?_
          rintro e w5 ⟨rfl, hb5⟩
          have hB5 := bel_then hB4 hB4.size hb5
          go_wp2_with fail
          refine (verifyN HV.out hkl _ _ _ (E4.now hb5) (hrk.now hb5) hnn hkc1).mono ?_
          rintro e w6 ⟨rfl, hb6⟩
          have hB6 := bel_then hB5 hB5.size hb6
          go_wp2_with fail
          refine (rverifyN HV.out hkl _ _ _ ((E4.now hb5).now hb6) ((hrk.now hb5).now hb6) hnn hkc1).mono ?_
          rintro e w7 ⟨rfl, hb7⟩
          have hB7 := bel_then hB6 hB6.size hb7
          go_wp2_with fail
          refine (rverifyN HV.out hkl _ _ _ (((E4.now hb5).now hb6).now hb7) (((hrk.now hb5).now hb6).now hb7) hnn hkc1).mono ?_
          rintro e w8 ⟨rfl, hb8⟩
          have hB8 := bel_then hB7 hB7.size hb8
          go_wp2_with fail
          refine (jalive_any _ ((((E4.now hb5).now hb6).now hb7).now hb8)).mono ?_
          rintro e w9 ⟨rfl, hb9⟩
          go_wp2_with fail
          go_ret
          exact ⟨rfl, bel_then hB8 hB8.size hb9⟩
        · go_wp2_with fail
          refine (jsameN HD.out hkl _ _ _ _ _ hr4 hrk (by omega) hnn).mono ?_
          rintro e w5 ⟨rfl, hb5⟩
          have hB5 := bel_then hB4 hB4.size hb5
          go_wp2_with fail
          refine (verifyN HV.out hkl _ _ _ (E4.now hb5) (hrk.now hb5) hnn hkc1).mono ?_
          rintro e w6 ⟨rfl, hb6⟩
          have hB6 := bel_then hB5 hB5.size hb6
          go_wp2_with fail
          refine (rverifyN HV.out hkl _ _ _ ((E4.now hb5).now hb6) ((hrk.now hb5).now hb6) hnn hkc1).mono ?_
          rintro e w7 ⟨rfl, hb7⟩
          have hB7 := bel_then hB6 hB6.size hb7
          go_wp2_with fail
          refine (jalive_any _ (((E4.now hb5).now hb6).now hb7)).mono ?_
          rintro e w8 ⟨rfl, hb8⟩
          go_wp2_with fail
          go_ret
          exact ⟨rfl, bel_then hB7 hB7.size hb8⟩
    · -- CASE3
      by_cases hlast : i + 1 = j.length
      · have hl1 : ((i : Int) + 1 == (j.length : Int)) = true := by rw [beq_iff_eq]; omega
        go_upto_region 8 with (at_builtin; refine wpList_append_grows _ rfl _ _ 22 rfl 37 i0 _ 3 32 Tryd.underlying22 hi0 hz0 hz1' hz2 rfl (by decide) _ 0 0 [] rfl (fun _ => ⟨rfl, rfl⟩) rfl (fun _ _ j u h => by simp at h) ⟨b, off, none⟩ j.length c1 (cellsE j) rfl (cellsE_len j) (rds_cells (hr2.now (by (repeat' (first | (with_reducible exact Below.refl _ _) | (with_reducible assumption) | (with_reducible refine Below.drewN ?_ _) | (with_reducible refine Below.drew ?_) | (with_reducible refine Below.alloc ?_ ?_ _) | (with_reducible refine Below.setCell ?_ ?_ _) | (with_reducible exact Nat.le_refl _) | (with_reducible exact Below.size (by assumption)) | omega | (simp only [World.size_alloc, World.size_setCell, World.size_drew]; omega) | (simp; done) | (simp; omega))))) rfl) (cellsE_cell j) (by omega) (by unfold maxLen; omega) (by omega) ?_; intro v' w3 hown hgrow; rw [Nat.zero_add, List.nil_append] at hown; obtain ⟨g, kc, rfl, hgb, hk⟩ := KRow.of_own hown (by omega) hent; have hb3 : Below w2.heap.size w2 w3 := ((Below.refl _ _).alloc (Nat.le_refl _) _).grown hgrow (by simp) (fun k hk => by cases hk); have hblk3 := hblk2.now hb3; have y1 : w3.cell? ⟨w.heap.size, 1, none⟩ = some (.int .i64 x.kind) := hblk3.cell 1; have y2 : w3.cell? ⟨w.heap.size, 2, none⟩ = some (.int .i64 x.time) := hblk3.cell 2; have y3 : w3.cell? ⟨w.heap.size, 3, none⟩ = some (.string (bs x.text)) := hblk3.cell 3; have y4 : w3.cell? ⟨w.heap.size, 4, none⟩ = some (.int .u64 (x.sum : Int)) := hblk3.cell 4; have hg2 : w2.heap.size ≤ g := (by simp at hgb; omega); obtain ⟨⟨z0, z1, z2⟩, hfz⟩ := hk.at hij; have hf0 := hfz (i * 3); have hf1 := hfz (i * 3 + 1); have hf2 := hfz (i * 3 + 2); clear hgb hown)
        go_wp2_with fail
        refine (jalive_any _ (E2.now hb3)).mono ?_
        rintro e w4 ⟨rfl, hb4⟩
        go_wp2_with fail
        go_ret
        exact ⟨rfl, bel_then (bel_then hB2 hz2w hb3) (bel_then hB2 hz2w hb3).size hb4⟩
      · have hl1 : ((i : Int) + 1 == (j.length : Int)) = false := by rw [beq_eq_false_iff_ne]; omega
        go_upto_region 9 with (at_builtin; refine wpList_append_grows _ rfl _ _ 22 rfl 37 i0 _ 3 32 Tryd.underlying22 hi0 hz0 hz1' hz2 rfl (by decide) _ 0 0 [] rfl (fun _ => ⟨rfl, rfl⟩) rfl (fun _ _ j u h => by simp at h) ⟨b, off, none⟩ j.length c1 (cellsE j) rfl (cellsE_len j) (rds_cells (hr2.now (by (repeat' (first | (with_reducible exact Below.refl _ _) | (with_reducible assumption) | (with_reducible refine Below.drewN ?_ _) | (with_reducible refine Below.drew ?_) | (with_reducible refine Below.alloc ?_ ?_ _) | (with_reducible refine Below.setCell ?_ ?_ _) | (with_reducible exact Nat.le_refl _) | (with_reducible exact Below.size (by assumption)) | omega | (simp only [World.size_alloc, World.size_setCell, World.size_drew]; omega) | (simp; done) | (simp; omega))))) rfl) (cellsE_cell j) (by omega) (by unfold maxLen; omega) (by omega) ?_; intro v' w3 hown hgrow; rw [Nat.zero_add, List.nil_append] at hown; obtain ⟨g, kc, rfl, hgb, hk⟩ := KRow.of_own hown (by omega) hent; have hb3 : Below w2.heap.size w2 w3 := ((Below.refl _ _).alloc (Nat.le_refl _) _).grown hgrow (by simp) (fun k hk => by cases hk); have hblk3 := hblk2.now hb3; have y1 : w3.cell? ⟨w.heap.size, 1, none⟩ = some (.int .i64 x.kind) := hblk3.cell 1; have y2 : w3.cell? ⟨w.heap.size, 2, none⟩ = some (.int .i64 x.time) := hblk3.cell 2; have y3 : w3.cell? ⟨w.heap.size, 3, none⟩ = some (.string (bs x.text)) := hblk3.cell 3; have y4 : w3.cell? ⟨w.heap.size, 4, none⟩ = some (.int .u64 (x.sum : Int)) := hblk3.cell 4; have hg2 : w2.heap.size ≤ g := (by simp at hgb; omega); obtain ⟨⟨z0, z1, z2⟩, hfz⟩ := hk.at hij; have hf0 := hfz (i * 3); have hf1 := hfz (i * 3 + 1); have hf2 := hfz (i * 3 + 2); clear hgb hown)
        have hkc0 := hk.cap_le
        have hkm : kc ≤ 9223372036854775807 := by have := hkc0.2; unfold maxLen at this; exact this
        have g1 : (0 : Int) ≤ (i : Int) + 1 := by omega
        have g2 : (i : Int) + 1 ≤ (j.length : Int) := by omega
        have g3 : IntKind.i64.wrap ((i : Int) + 1) = (i : Int) + 1 := IntWalk.i64_in _ (by omega)
        have g4 : ((i : Int) + 1).toNat = i + 1 := by omega
        have g5 : (i : Int) ≤ (kc : Int) := by omega
        have g6 : (j.length : Int) ≤ (kc : Int) := by omega
        have g7 : ¬ kc = i + 1 := by omega
        have g8 : i + 1 < kc := by omega
        have hkd : KRow w3.drew 37 g kc j := hk.now (Below.refl _ _).drew
        go_region_law (refine step_drop rfl (.tmp 50) (.tmp 54) 22 rfl 37 i0 Tryd.underlying22 hi0 hz1' hkd hij 0 i kc ((i + 1) * 3) (j.length - (i + 1)) (kc - (i + 1)) (by simp [Act.eval, Act.put]) (by simp [Act.eval, Act.put]) rfl rfl rfl rfl rfl ?_)
        have hk4 := hkd.drop hij
        have hb4 := Go.below_setCells hg2 (cellsE (j.drop (i + 1))) (i * 3) w3.drew hb3.drew
        have hkl : (j.take i ++ j.drop (i + 1)).length = i + (j.length - (i + 1)) := by simp; omega
        have hver := verF_drop hij hv
        generalize hK : j.take i ++ j.drop (i + 1) = K at *
        clear hK
        generalize w3.drew.setCells g (i * 3) (cellsE (j.drop (i + 1))) = w4 at *
        clear hblk3 hblk2 y1 y2 y3 y4 x0 x1 x2 x3 x4 hf0 hf1 hf2 hfz z0 z1 z2 hk hb3 g1 g2 g3 g4 g5 g6 g7 g8 hkd
        -- tail: K, hk4 : KRow w4 .., hkl : K.length = j.length, hvk
        have hr4 := hr2.now hb4
        have E4 := E2.now hb4
        have hB4 := bel_then hB2 hz2w hb4
        have hrk := hk4.rds
        have hkc := hk4.cap_le
        rw [hkl] at hkc
        obtain ⟨v, hvk⟩ : ∃ v, verF K = v := ⟨_, rfl⟩
        have hnn : i + (j.length - (i + 1)) ≤ 600 := by omega
        have hkc1 := hkc.1
        have HV := Lib.hid hvk
        rw [hvk] at hver
        clear hvk
        by_cases hjk : j = K
        · have hv1 : v = -1 := by rw [← HV.out, ← hjk]; exact hv
          subst hv1
          have hdd : decide (j = K) = true := decide_eq_true hjk
          have HD := Lib.hid hdd
          clear hdd hjk
          go_wp2_with fail
          refine (jsameN HD.out hkl _ _ _ _ _ hr4 hrk (by omega) hnn).mono ?_
          rintro e w5 ⟨rfl, hb5⟩
          have hB5 := bel_then hB4 hB4.size hb5
          go_wp2_with fail
          refine (verifyN HV.out hkl _ _ _ (E4.now hb5) (hrk.now hb5) hnn hkc1).mono ?_
          rintro e w6 ⟨rfl, hb6⟩
          have hB6 := bel_then hB5 hB5.size hb6
          go_wp2_with fail
          refine (jalive_any _ ((E4.now hb5).now hb6)).mono ?_
          rintro e w7 ⟨rfl, hb7⟩
          go_wp2_with fail
          go_ret
          exact ⟨rfl, bel_then hB6 hB6.size hb7⟩
        · have HD : Hid (decide (j = K) = false) := Lib.hid (decide_eq_false hjk)
          clear hjk
          rcases hver with hver | ⟨hv1, hv2⟩
          · subst hver
            go_wp2_with fail
            refine (jsameN HD.out hkl _ _ _ _ _ hr4 hrk (by omega) hnn).mono ?_
            rintro e w5 ⟨rfl, hb5⟩
            have hB5 := bel_then hB4 hB4.size hb5
            go_wp2_with fail
            refine (verifyN HV.out hkl _ _ _ (E4.now hb5) (hrk.now hb5) hnn hkc1).mono ?_
            rintro e w6 ⟨rfl, hb6⟩
            have hB6 := bel_then hB5 hB5.size hb6
            go_wp2_with fail
            refine (rverifyN HV.out hkl _ _ _ ((E4.now hb5).now hb6) ((hrk.now hb5).now hb6) hnn hkc1).mono ?_
            rintro e w7 ⟨rfl, hb7⟩
            have hB7 := bel_then hB6 hB6.size hb7
            go_wp2_with fail
            refine (rverifyN HV.out hkl _ _ _ (((E4.now hb5).now hb6).now hb7) (((hrk.now hb5).now hb6).now hb7) hnn hkc1).mono ?_
            rintro e w8 ⟨rfl, hb8⟩
            have hB8 := bel_then hB7 hB7.size hb8
            go_wp2_with fail
            refine (jalive_any _ ((((E4.now hb5).now hb6).now hb7).now hb8)).mono ?_
            rintro e w9 ⟨rfl, hb9⟩
            go_wp2_with fail
            go_ret
            exact ⟨rfl, bel_then hB8 hB8.size hb9⟩
          · go_wp2_with fail
            refine (jsameN HD.out hkl _ _ _ _ _ hr4 hrk (by omega) hnn).mono ?_
            rintro e w5 ⟨rfl, hb5⟩
            have hB5 := bel_then hB4 hB4.size hb5
            go_wp2_with fail
            refine (verifyN HV.out hkl _ _ _ (E4.now hb5) (hrk.now hb5) hnn hkc1).mono ?_
            rintro e w6 ⟨rfl, hb6⟩
            have hB6 := bel_then hB5 hB5.size hb6
            go_wp2_with fail
            refine (rverifyN HV.out hkl _ _ _ ((E4.now hb5).now hb6) ((hrk.now hb5).now hb6) hnn hkc1).mono ?_
            rintro e w7 ⟨rfl, hb7⟩
            have hB7 := bel_then hB6 hB6.size hb7
            go_wp2_with fail
            refine (jalive_any _ (((E4.now hb5).now hb6).now hb7)).mono ?_
            rintro e w8 ⟨rfl, hb8⟩
            go_wp2_with fail
            go_ret
            exact ⟨rfl, bel_then hB7 hB7.size hb8⟩
end Go.Proofs.YtnckainiphlndaaDoor
