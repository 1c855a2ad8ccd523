/- The walk of Delay of timetables. -/
import Derived.Test.YtaedelcbioiogaaTtPlainB
import Derived.Test.YtaedelcbioiogaaTtWalksC
import Derived.Deep.RegionHeld3
import Derived.Deep.Cut
import Derived.IntWalk
namespace Go.Proofs.Ytaedelcbioiogaa
set_option linter.unusedVariables false
set_option linter.unusedSimpArgs false
open Go.RowKit
theorem ret_d {p : Int × Int} {a b : Int} (h : p = (a, b)) : Ending.returned (.tuple #[.int .i64 a, .int .i64 b]) = .returned (.tuple #[.int .i64 p.1, .int .i64 p.2]) := by rw [h]
theorem bel_two {w w1 w2 : World} {B : Nat} (h : Below B w w1) (hB : B ≤ w.heap.size) (h2 : Below w1.heap.size w1 w2) : Below B w w2 := h.trans (h2.mono (Nat.le_trans hB h.size))
set_option maxRecDepth 100000 in
set_option maxHeartbeats 8000000 in
theorem delay_any (l : List Trp) (A : Option Addr) (c : Nat) (st : List (List Int)) (B : Option Addr) (d : Nat) (w : World) (hfew : fewB l = true) (hst : st.length ≤ 9223372036854775807) (hA : RdS cTrp w w.heap.size A l) (hB : RdS (cL cI) w w.heap.size B st) :
    Calls Try.prog 17 #[.slice A l.length c, .slice B st.length d] w fun e w' => e = .returned (.tuple #[.int .i64 (delayOf l st).1, .int .i64 (delayOf l st).2]) ∧ Below w.heap.size w w' := by
  have h20 := few_len hfew
  have HW := Lib.hid hfew
  clear hfew
  by_cases he : l.length = st.length
  · have hne : ((st.length : Int) != (l.length : Int)) = false := by simp [he]
    have HL := Lib.hid he
    have hst20 : st.length ≤ 20 := by omega
    clear he
    go_enter Try.func17, Try.ntmps17
    go_wp2_with fail
    go_loopw [24] (fun i wr => ∃ k : Nat, k ≤ l.length ∧ i = .int .i64 k ∧ ((l.zip st).take k).all (fun x => decide (x.1.2.length = x.2.length)) = true ∧ (upTo l st k 0).all argB = true ∧ Below w.heap.size w wr) (fun i _ => (l.length - intOf i).toNat)
    case atStart => exact ⟨0, by omega, rfl, rfl, by rw [upTo_zero]; rfl, by (repeat' (first | (with_reducible exact Below.refl _ _) | (with_reducible assumption) | (with_reducible refine Below.drewN ?_ _) | (with_reducible refine Below.drew ?_) | (with_reducible refine Below.alloc ?_ ?_ _) | (with_reducible refine Below.setCell ?_ ?_ _) | (with_reducible exact Nat.le_refl _) | (with_reducible exact Below.size (by assumption)) | omega | (simp only [World.size_alloc, World.size_setCell, World.size_drew]; omega) | (simp; done) | (simp; omega)))⟩
    case round =>
      obtain ⟨n, hk, rfl, htk, htu, hI⟩ := hrel
      have HK := Lib.hid htk
      have HU := Lib.hid htu
      clear htk htu
      have hsz := hI.size
      obtain ⟨wo, rfl⟩ : ∃ wo : World, wo = wr := ⟨_, rfl⟩
      by_cases hlt : n < l.length
      · have hls : n < st.length := by have := HL.out; omega
        obtain ⟨b, off, A', c', rfl, hb1, h1, h2, h3, x0, x1⟩ := trp_at (hA.below hI) hlt
        obtain ⟨b', off', A2, c2, rfl, hb2, h4, h5, y0⟩ := rows_at (hB.below hI) hls
        have HS := Lib.hid (shape_take hlt hls)
        have HD := Lib.hid (fun h => delay_shape (shape_no hlt hls h))
        have HX := Lib.hid (fun (j : Nat) (h : j < l[n].2.length) (h' : j < st[n].length) (hh : argB (l[n].2[j], st[n][j]) = false) => delay_arg hlt hls h h' hh)
        have HT := Lib.hid (fun (j : Nat) (h : j < l[n].2.length) (h' : j < st[n].length) => upTo_step (j := j) hlt hls h h')
        have HR := Lib.hid (fun (e : l[n].2.length = st[n].length) => upTo_row hlt hls e)
        have hx20 := few_row HW.out hlt
        clear hA hB
        generalize l[n] = x at h1 h2 h3 x0 x1 HS HD HX HT HR hx20
        generalize st[n] = y at h4 h5 y0 HS HD HX HT HR
        have hn : (n : Int) < (l.length : Int) := by omega
        have hn2 : (n : Int) < (st.length : Int) := by omega
        have hbw : b < wo.heap.size := by omega
        have hbw' : b' < wo.heap.size := by omega
        have hy63 : y.length ≤ 9223372036854775807 := Nat.le_trans h4 (by decide)
        by_cases hxy : x.2.length = y.length
        · have hn1 : ((y.length : Int) != (x.2.length : Int)) = false := by simp [hxy]
          have HXY := Lib.hid hxy
          have hy20 : y.length ≤ 20 := by omega
          clear hxy
          go_wp2_with fail
          (refine wp_region_quiet_lit (by kernel_rfl) (by kernel_rfl) ?_; (repeat (any_goals (first | go_big_quiet_step (fail) | quiet_step (fail) | (refine wpQuiet_step (fun K hK => ?_); go_simp; split <;> (refine hK _ ?_; clear hK K))))); all_goals (refine wpQuiet_nil ?_; intro _ hw'; obtain ⟨nq, hw''⟩ := hw'; subst hw''))
          go_wp2_with fail
          go_loopw [41] (fun i wr => ∃ k : Nat, k ≤ x.2.length ∧ i = .int .i64 k ∧ (upTo l st n k).all argB = true ∧ Blk wr wo.heap.size 50 #[.int .i64 x.1, .slice A' x.2.length c'] ∧ Below wo.heap.size wo wr) (fun i _ => (x.2.length - intOf i).toNat)
          case atStart => exact ⟨0, by omega, rfl, HU.out, by (repeat' (first | (with_reducible assumption) | (with_reducible refine Blk.new _ _ _ _ ?_) | (with_reducible refine Blk.drewN ?_ _) | (with_reducible refine Blk.drew ?_) | (with_reducible refine Blk.alloc ?_ _) | (with_reducible refine Blk.far ?_ ?_ _) | rfl | omega | (simp; done) | (simp; omega))), by (repeat' (first | (with_reducible exact Below.refl _ _) | (with_reducible assumption) | (with_reducible refine Below.drewN ?_ _) | (with_reducible refine Below.drew ?_) | (with_reducible refine Below.alloc ?_ ?_ _) | (with_reducible refine Below.setCell ?_ ?_ _) | (with_reducible exact Nat.le_refl _) | (with_reducible exact Below.size (by assumption)) | omega | (simp only [World.size_alloc, World.size_setCell, World.size_drew]; omega) | (simp; done) | (simp; omega)))⟩
          case round =>
            obtain ⟨j, hj, rfl, hta, hP, hJ⟩ := hrel
            have HA := Lib.hid hta
            clear hta
            have hz1 := hP.lt
            have hjz := hJ.size
            by_cases hlj : j < x.2.length
            · have hly : j < y.length := by have := HXY.out; omega
              have g3 : RdS cStp wr w.heap.size A' x.2 := h3.keep fun p hp => hJ.cell (by omega)
              have g5 : RdS cI wr w.heap.size A2 y := h5.keep fun p hp => hJ.cell (by omega)
              have z0 := (hJ.cell (p := ⟨b', off' + n, none⟩) hbw').trans y0
              obtain ⟨bs', os', rfl, hb3, _, s0, s1, s2, s3⟩ := stp_at g3 hlj
              obtain ⟨bi, oi, rfl, hb4, _, v0⟩ := ints_at g5 hly
              have HF := Lib.hid (HT.out j hlj hly)
              have HG := Lib.hid (HX.out j hlj hly)
              clear g3 g5 h3 h5 x0 x1 y0
              generalize x.2[j] = sa at s0 s1 s2 s3 HF HG
              generalize y[j] = v at v0 HF HG
              obtain ⟨a0, a1, a2, a3⟩ := sa
              have p1 := hP.cell 1
              simp only [List.getElem?_toArray, List.getElem?_cons_succ, List.getElem?_cons_zero] at p1
              have i1 : (j : Int) < (x.2.length : Int) := by omega
              have i2 : (j : Int) < (y.length : Int) := by omega
              have hmk : ∀ w', Below wr.heap.size wr w' → Below wr.heap.size wr w' ∧ w'.cell? ⟨wo.heap.size, 1, none⟩ = some (.slice (some ⟨bs', os', none⟩) x.2.length c') ∧ w'.cell? ⟨b', off' + n, none⟩ = some (.slice (some ⟨bi, oi, none⟩) y.length c2) ∧ w'.cell? ⟨bs', os' + j * 4, none⟩ = some (.int .i64 a0) ∧ w'.cell? ⟨bs', os' + j * 4 + 1, none⟩ = some (.int .i64 a1) ∧ w'.cell? ⟨bs', os' + j * 4 + 2, none⟩ = some (.int .i64 a2) ∧ w'.cell? ⟨bs', os' + j * 4 + 3, none⟩ = some (.int .i64 a3) ∧ w'.cell? ⟨bi, oi + j, none⟩ = some (.int .i64 v) := fun w' hq => by
                have k0 := fun o => hq.cell (p := ⟨wo.heap.size, o, none⟩) hz1
                have k1 := fun o => hq.cell (p := ⟨b', o, none⟩) (show b' < wr.heap.size by omega)
                have k2 := fun o => hq.cell (p := ⟨bs', o, none⟩) (show bs' < wr.heap.size by omega)
                have k3 := fun o => hq.cell (p := ⟨bi, o, none⟩) (show bi < wr.heap.size by omega)
                exact ⟨hq, (k0 _).trans p1, (k1 _).trans z0, (k2 _).trans s0, (k2 _).trans s1, (k2 _).trans s2, (k2 _).trans s3, (k3 _).trans v0⟩
              have hS := hmk wr (Below.refl _ _)
              have HMK := Lib.hid hmk
              clear hmk s0 s1 s2 s3 v0 p1 z0
              go_wp2_with fail
              go_region_held3 (fun w' => Below wr.heap.size wr w' ∧ w'.cell? ⟨wo.heap.size, 1, none⟩ = some (.slice (some ⟨bs', os', none⟩) x.2.length c') ∧ w'.cell? ⟨b', off' + n, none⟩ = some (.slice (some ⟨bi, oi, none⟩) y.length c2) ∧ w'.cell? ⟨bs', os' + j * 4, none⟩ = some (.int .i64 a0) ∧ w'.cell? ⟨bs', os' + j * 4 + 1, none⟩ = some (.int .i64 a1) ∧ w'.cell? ⟨bs', os' + j * 4 + 2, none⟩ = some (.int .i64 a2) ∧ w'.cell? ⟨bs', os' + j * 4 + 3, none⟩ = some (.int .i64 a3) ∧ w'.cell? ⟨bi, oi + j, none⟩ = some (.int .i64 v))
                (first | assumption | (refine HMK.out _ ?_; have hbq := (by assumption : Below wr.heap.size wr _ ∧ _).1; (repeat' (first | (with_reducible exact Below.refl _ _) | (with_reducible assumption) | (with_reducible refine Below.drewN ?_ _) | (with_reducible refine Below.drew ?_) | (with_reducible refine Below.alloc ?_ ?_ _) | (with_reducible refine Below.setCell ?_ ?_ _) | (with_reducible exact Nat.le_refl _) | (with_reducible exact Below.size (by assumption)) | omega | (simp only [World.size_alloc, World.size_setCell, World.size_drew]; omega) | (simp; done) | (simp; omega)))))
                (fail)
              all_goals (have hbq := (by assumption : Below wr.heap.size wr _ ∧ _).1)
              all_goals (have hzq := hbq.size)
              all_goals (go_wp2_with fail)
              all_goals first
                | (have hno : argB ((a0, a1, a2, a3), v) = false := by simp [argB]; omega
                   have HZ := Lib.hid (HG.out hno)
                   go_ret2
                   exact ⟨ret_d HZ.out, bel_two hI (Nat.le_refl _) (bel_two hJ (Nat.le_refl _) (by (repeat' (first | (with_reducible exact Below.refl _ _) | (with_reducible assumption) | (with_reducible refine Below.drewN ?_ _) | (with_reducible refine Below.drew ?_) | (with_reducible refine Below.alloc ?_ ?_ _) | (with_reducible refine Below.setCell ?_ ?_ _) | (with_reducible exact Nat.le_refl _) | (with_reducible exact Below.size (by assumption)) | omega | (simp only [World.size_alloc, World.size_setCell, World.size_drew]; omega) | (simp; done) | (simp; omega)))))⟩)
                | (have hyes : argB ((a0, a1, a2, a3), v) = true := by simp [argB]; omega
                   go_roundw
                   case rel => exact ⟨j + 1, by omega, by go_num, by rw [HF.out, List.all_append, HA.out]; simpa using hyes, by (repeat' (first | (with_reducible assumption) | (with_reducible refine Blk.new _ _ _ _ ?_) | (with_reducible refine Blk.drewN ?_ _) | (with_reducible refine Blk.drew ?_) | (with_reducible refine Blk.alloc ?_ _) | (with_reducible refine Blk.far ?_ ?_ _) | rfl | omega | (simp; done) | (simp; omega))), bel_two hJ (Nat.le_refl _) (by (repeat' (first | (with_reducible exact Below.refl _ _) | (with_reducible assumption) | (with_reducible refine Below.drewN ?_ _) | (with_reducible refine Below.drew ?_) | (with_reducible refine Below.alloc ?_ ?_ _) | (with_reducible refine Below.setCell ?_ ?_ _) | (with_reducible exact Nat.le_refl _) | (with_reducible exact Below.size (by assumption)) | omega | (simp only [World.size_alloc, World.size_setCell, World.size_drew]; omega) | (simp; done) | (simp; omega))))⟩
                   case measure => simp [intOf] <;> omega)
            · have he : j = x.2.length := by omega
              subst he
              have HG := Lib.hid (show (upTo l st (n + 1) 0).all argB = true by rw [← HR.out HXY.out]; exact HA.out)
              go_wp2_with fail
              go_roundw
              case rel => exact ⟨n + 1, by omega, by go_num, by rw [HS.out, HK.out]; simpa using HXY.out, HG.out, bel_two hI (Nat.le_refl _) hJ⟩
              case measure => simp [intOf] <;> omega
        · have hn1 : ((y.length : Int) != (x.2.length : Int)) = true := by rw [bne_iff_ne]; omega
          have HXY := Lib.hid (HD.out hxy)
          clear hxy
          go_wp2_with fail
          (refine wp_region_quiet_lit (by kernel_rfl) (by kernel_rfl) ?_; (repeat (any_goals (first | go_big_quiet_step (fail) | quiet_step (fail) | (refine wpQuiet_step (fun K hK => ?_); go_simp; split <;> (refine hK _ ?_; clear hK K))))); all_goals (refine wpQuiet_nil ?_; intro _ hw'; obtain ⟨nq, hw''⟩ := hw'; subst hw''))
          go_wp2_with fail
          go_ret2
          exact ⟨ret_d HXY.out, bel_two hI (Nat.le_refl _) (by (repeat' (first | (with_reducible exact Below.refl _ _) | (with_reducible assumption) | (with_reducible refine Below.drewN ?_ _) | (with_reducible refine Below.drew ?_) | (with_reducible refine Below.alloc ?_ ?_ _) | (with_reducible refine Below.setCell ?_ ?_ _) | (with_reducible exact Nat.le_refl _) | (with_reducible exact Below.size (by assumption)) | omega | (simp only [World.size_alloc, World.size_setCell, World.size_drew]; omega) | (simp; done) | (simp; omega))))⟩
      · have H1 := Lib.hid (shape_yes HL.out hlt HK.out)
        have H2 := Lib.hid (show (pairs l st).all argB = true by
          have hn : n = l.length := by omega
          rw [← upTo_end HL.out, ← hn]; exact HU.out)
        clear HK HU hk
        go_wp2_with fail
        clear hlt
        go_loopw [11, 86] (fun sm i wr => ∃ (k : Nat) (S : Int), k ≤ l.length ∧ i = .int .i64 k ∧ sm = .int .i64 S ∧ S = sumOf (upTo l st k 0) ∧ 0 ≤ S ∧ S ≤ 214748364800 * (20 * (k : Int)) ∧ (upTo l st k 0).all lateB = true ∧ Below w.heap.size w wr) (fun _ i _ => (l.length - intOf i).toNat)
        case atStart => exact ⟨0, 0, by omega, rfl, rfl, by rw [upTo_zero]; rfl, by omega, by omega, by rw [upTo_zero]; rfl, hI⟩
        case round =>
          clear hI hsz
          obtain ⟨n, S, hk, rfl, rfl, hS, hS1, hS2, htu, hI⟩ := hrel
          have HS0 := Lib.hid hS
          have HU := Lib.hid htu
          clear hS htu
          have hsz := hI.size
          obtain ⟨wo, rfl⟩ : ∃ wo : World, wo = wr := ⟨_, rfl⟩
          by_cases hlt : n < l.length
          · have hls : n < st.length := by have := HL.out; omega
            obtain ⟨b, off, A', c', rfl, hb1, h1, h2, h3, x0, x1⟩ := trp_at (hA.below hI) hlt
            obtain ⟨b', off', A2, c2, rfl, hb2, h4, h5, y0⟩ := rows_at (hB.below hI) hls
            have HX := Lib.hid (fun (j : Nat) (h : j < l[n].2.length) (h' : j < st[n].length) (hh : lateB (l[n].2[j], st[n][j]) = false) => delay_late H1.out H2.out hlt hls h h' hh)
            have HP := Lib.hid (fun (j : Nat) (h : j < l[n].2.length) (h' : j < st[n].length) => (List.all_eq_true.1 H2.out) _ (mem_pairs hlt hls h h'))
            have HT := Lib.hid (fun (j : Nat) (h : j < l[n].2.length) (h' : j < st[n].length) => upTo_step (j := j) hlt hls h h')
            have HXY := Lib.hid (shape_row H1.out hlt hls)
            have HR := Lib.hid (upTo_row hlt hls HXY.out)
            have hx20 := few_row HW.out hlt
            clear hA hB
            generalize l[n] = x at h1 h2 h3 x0 x1 HX HP HT HR hx20 HXY
            generalize st[n] = y at h4 h5 y0 HX HP HT HR HXY
            have hn : (n : Int) < (l.length : Int) := by omega
            have hn2 : (n : Int) < (st.length : Int) := by omega
            have hbw : b < wo.heap.size := by omega
            have hbw' : b' < wo.heap.size := by omega
            have hy20 : y.length ≤ 20 := by have := HXY.out; omega
            go_wp2_with fail
            go_loopw [11, 94] (fun sm i wr => ∃ (k : Nat) (S : Int), k ≤ x.2.length ∧ i = .int .i64 k ∧ sm = .int .i64 S ∧ S = sumOf (upTo l st n k) ∧ 0 ≤ S ∧ S ≤ 214748364800 * (20 * (n : Int) + k) ∧ (upTo l st n k).all lateB = true ∧ Blk wr wo.heap.size 50 #[.int .i64 x.1, .slice A' x.2.length c'] ∧ Below wo.heap.size wo wr) (fun _ i _ => (x.2.length - intOf i).toNat)
            case atStart => exact ⟨0, S, by omega, rfl, rfl, HS0.out, hS1, by omega, HU.out, by (repeat' (first | (with_reducible assumption) | (with_reducible refine Blk.new _ _ _ _ ?_) | (with_reducible refine Blk.drewN ?_ _) | (with_reducible refine Blk.drew ?_) | (with_reducible refine Blk.alloc ?_ _) | (with_reducible refine Blk.far ?_ ?_ _) | rfl | omega | (simp; done) | (simp; omega))), by (repeat' (first | (with_reducible exact Below.refl _ _) | (with_reducible assumption) | (with_reducible refine Below.drewN ?_ _) | (with_reducible refine Below.drew ?_) | (with_reducible refine Below.alloc ?_ ?_ _) | (with_reducible refine Below.setCell ?_ ?_ _) | (with_reducible exact Nat.le_refl _) | (with_reducible exact Below.size (by assumption)) | omega | (simp only [World.size_alloc, World.size_setCell, World.size_drew]; omega) | (simp; done) | (simp; omega)))⟩
            case round =>
              clear hS1 hS2
              obtain ⟨j, T, hj, rfl, rfl, hT, hT1, hT2, hta, hP, hJ⟩ := hrel
              have HA := Lib.hid hta
              have HT0 := Lib.hid hT
              clear hta hT
              have hz1 := hP.lt
              have hjz := hJ.size
              by_cases hlj : j < x.2.length
              · have hly : j < y.length := by have := HXY.out; omega
                have g3 : RdS cStp wr w.heap.size A' x.2 := h3.keep fun p hp => hJ.cell (by omega)
                have g5 : RdS cI wr w.heap.size A2 y := h5.keep fun p hp => hJ.cell (by omega)
                have z0 := (hJ.cell (p := ⟨b', off' + n, none⟩) hbw').trans y0
                obtain ⟨bs', os', rfl, hb3, _, s0, s1, s2, s3⟩ := stp_at g3 hlj
                obtain ⟨bi, oi, rfl, hb4, _, v0⟩ := ints_at g5 hly
                have HF := Lib.hid (HT.out j hlj hly)
                have HG := Lib.hid (HX.out j hlj hly)
                have hag := HP.out j hlj hly
                clear g3 g5 h3 h5 x0 x1 y0
                generalize x.2[j] = sa at s0 s1 s2 s3 HF HG hag
                generalize y[j] = v at v0 HF HG hag
                obtain ⟨a0, a1, a2, a3⟩ := sa
                simp only [argB, decide_eq_true_eq] at hag
                obtain ⟨v1, v2, v3, v4, v5, v6⟩ := hag
                have p1 := hP.cell 1
                simp only [List.getElem?_toArray, List.getElem?_cons_succ, List.getElem?_cons_zero] at p1
                have i1 : (j : Int) < (x.2.length : Int) := by omega
                have i2 : (j : Int) < (y.length : Int) := by omega
                have hmk : ∀ w', Below wr.heap.size wr w' → Below wr.heap.size wr w' ∧ w'.cell? ⟨wo.heap.size, 1, none⟩ = some (.slice (some ⟨bs', os', none⟩) x.2.length c') ∧ w'.cell? ⟨b', off' + n, none⟩ = some (.slice (some ⟨bi, oi, none⟩) y.length c2) ∧ w'.cell? ⟨bs', os' + j * 4, none⟩ = some (.int .i64 a0) ∧ w'.cell? ⟨bs', os' + j * 4 + 1, none⟩ = some (.int .i64 a1) ∧ w'.cell? ⟨bs', os' + j * 4 + 2, none⟩ = some (.int .i64 a2) ∧ w'.cell? ⟨bs', os' + j * 4 + 3, none⟩ = some (.int .i64 a3) ∧ w'.cell? ⟨bi, oi + j, none⟩ = some (.int .i64 v) := fun w' hq => by
                  have k0 := fun o => hq.cell (p := ⟨wo.heap.size, o, none⟩) hz1
                  have k1 := fun o => hq.cell (p := ⟨b', o, none⟩) (show b' < wr.heap.size by omega)
                  have k2 := fun o => hq.cell (p := ⟨bs', o, none⟩) (show bs' < wr.heap.size by omega)
                  have k3 := fun o => hq.cell (p := ⟨bi, o, none⟩) (show bi < wr.heap.size by omega)
                  exact ⟨hq, (k0 _).trans p1, (k1 _).trans z0, (k2 _).trans s0, (k2 _).trans s1, (k2 _).trans s2, (k2 _).trans s3, (k3 _).trans v0⟩
                have hS := hmk wr (Below.refl _ _)
                have HMK := Lib.hid hmk
                clear hmk s0 s1 s2 s3 v0 p1 z0
                have hc := cost_bd v1 v2 v3 v4 v5 v6
                obtain ⟨hc1, hc2⟩ := hc
                by_cases hlate : a1 ≤ v
                · have hc0 := cost_nonneg (a3 := a3) hlate v5
                  have HY := Lib.hid (show lateB ((a0, a1, a2, a3), v) = true by simp [lateB]; omega)
                  have HC := Lib.hid (show costOf ((a0, a1, a2, a3), v) = a3 * (v - a1) from rfl)
                  go_wp2_with fail
                  go_region_held3 (fun w' => Below wr.heap.size wr w' ∧ w'.cell? ⟨wo.heap.size, 1, none⟩ = some (.slice (some ⟨bs', os', none⟩) x.2.length c') ∧ w'.cell? ⟨b', off' + n, none⟩ = some (.slice (some ⟨bi, oi, none⟩) y.length c2) ∧ w'.cell? ⟨bs', os' + j * 4, none⟩ = some (.int .i64 a0) ∧ w'.cell? ⟨bs', os' + j * 4 + 1, none⟩ = some (.int .i64 a1) ∧ w'.cell? ⟨bs', os' + j * 4 + 2, none⟩ = some (.int .i64 a2) ∧ w'.cell? ⟨bs', os' + j * 4 + 3, none⟩ = some (.int .i64 a3) ∧ w'.cell? ⟨bi, oi + j, none⟩ = some (.int .i64 v))
                    (first | assumption | (refine HMK.out _ ?_; have hbq := (by assumption : Below wr.heap.size wr _ ∧ _).1; (repeat' (first | (with_reducible exact Below.refl _ _) | (with_reducible assumption) | (with_reducible refine Below.drewN ?_ _) | (with_reducible refine Below.drew ?_) | (with_reducible refine Below.alloc ?_ ?_ _) | (with_reducible refine Below.setCell ?_ ?_ _) | (with_reducible exact Nat.le_refl _) | (with_reducible exact Below.size (by assumption)) | omega | (simp only [World.size_alloc, World.size_setCell, World.size_drew]; omega) | (simp; done) | (simp; omega)))))
                    (fail)
                  all_goals (have hbq := (by assumption : Below wr.heap.size wr _ ∧ _).1)
                  all_goals (have hzq := hbq.size)
                  all_goals (go_wp2_with fail)
                  all_goals go_roundw
                  case rel => exact ⟨j + 1, T + a3 * (v - a1), by omega, by go_num, rfl, by rw [HF.out, sumOf_snoc, HC.out, HT0.out], by omega, by omega, by rw [HF.out, List.all_append, HA.out]; simpa using HY.out, by (repeat' (first | (with_reducible assumption) | (with_reducible refine Blk.new _ _ _ _ ?_) | (with_reducible refine Blk.drewN ?_ _) | (with_reducible refine Blk.drew ?_) | (with_reducible refine Blk.alloc ?_ _) | (with_reducible refine Blk.far ?_ ?_ _) | rfl | omega | (simp; done) | (simp; omega))), bel_two hJ (Nat.le_refl _) (by (repeat' (first | (with_reducible exact Below.refl _ _) | (with_reducible assumption) | (with_reducible refine Below.drewN ?_ _) | (with_reducible refine Below.drew ?_) | (with_reducible refine Below.alloc ?_ ?_ _) | (with_reducible refine Below.setCell ?_ ?_ _) | (with_reducible exact Nat.le_refl _) | (with_reducible exact Below.size (by assumption)) | omega | (simp only [World.size_alloc, World.size_setCell, World.size_drew]; omega) | (simp; done) | (simp; omega))))⟩
                  case measure => simp [intOf] <;> omega
                · have HZ := Lib.hid (HG.out (show lateB ((a0, a1, a2, a3), v) = false by simp [lateB]; omega))
                  have hearly : v < a1 := by omega
                  clear hlate hc1 hc2
                  go_wp2_with fail
                  go_region_held3 (fun w' => Below wr.heap.size wr w' ∧ w'.cell? ⟨wo.heap.size, 1, none⟩ = some (.slice (some ⟨bs', os', none⟩) x.2.length c') ∧ w'.cell? ⟨b', off' + n, none⟩ = some (.slice (some ⟨bi, oi, none⟩) y.length c2) ∧ w'.cell? ⟨bs', os' + j * 4, none⟩ = some (.int .i64 a0) ∧ w'.cell? ⟨bs', os' + j * 4 + 1, none⟩ = some (.int .i64 a1) ∧ w'.cell? ⟨bs', os' + j * 4 + 2, none⟩ = some (.int .i64 a2) ∧ w'.cell? ⟨bs', os' + j * 4 + 3, none⟩ = some (.int .i64 a3) ∧ w'.cell? ⟨bi, oi + j, none⟩ = some (.int .i64 v))
                    (first | assumption | (refine HMK.out _ ?_; have hbq := (by assumption : Below wr.heap.size wr _ ∧ _).1; (repeat' (first | (with_reducible exact Below.refl _ _) | (with_reducible assumption) | (with_reducible refine Below.drewN ?_ _) | (with_reducible refine Below.drew ?_) | (with_reducible refine Below.alloc ?_ ?_ _) | (with_reducible refine Below.setCell ?_ ?_ _) | (with_reducible exact Nat.le_refl _) | (with_reducible exact Below.size (by assumption)) | omega | (simp only [World.size_alloc, World.size_setCell, World.size_drew]; omega) | (simp; done) | (simp; omega)))))
                    (fail)
                  all_goals (have hbq := (by assumption : Below wr.heap.size wr _ ∧ _).1)
                  all_goals (have hzq := hbq.size)
                  all_goals (go_wp2_with fail)
                  all_goals go_ret2
                  all_goals exact ⟨ret_d HZ.out, bel_two hI (Nat.le_refl _) (bel_two hJ (Nat.le_refl _) (by (repeat' (first | (with_reducible exact Below.refl _ _) | (with_reducible assumption) | (with_reducible refine Below.drewN ?_ _) | (with_reducible refine Below.drew ?_) | (with_reducible refine Below.alloc ?_ ?_ _) | (with_reducible refine Below.setCell ?_ ?_ _) | (with_reducible exact Nat.le_refl _) | (with_reducible exact Below.size (by assumption)) | omega | (simp only [World.size_alloc, World.size_setCell, World.size_drew]; omega) | (simp; done) | (simp; omega)))))⟩
              · have he : j = x.2.length := by omega
                subst he
                have HG := Lib.hid (show (upTo l st (n + 1) 0).all lateB = true by rw [← HR.out]; exact HA.out)
                have HG2 := Lib.hid (show T = sumOf (upTo l st (n + 1) 0) by rw [← HR.out]; exact HT0.out)
                go_wp2_with fail
                go_roundw
                case rel => exact ⟨n + 1, T, by omega, by go_num, rfl, HG2.out, hT1, by omega, HG.out, bel_two hI (Nat.le_refl _) hJ⟩
                case measure => simp [intOf] <;> omega
          · have HN := Lib.hid (show delayOf l st = (S, 0) by
              have hn : n = l.length := by omega
              have hu := HU.out
              have hs := HS0.out
              rw [hn, upTo_end HL.out] at hu hs
              rw [delay_ok H1.out H2.out hu, ← hs])
            go_wp2_with fail
            go_ret2
            exact ⟨ret_d HN.out, hI⟩
  · have hne : ((st.length : Int) != (l.length : Int)) = true := by rw [bne_iff_ne]; omega
    have HF := Lib.hid (delay_shape (l := l) (s := st) (by unfold shapeB; rw [decide_eq_false he, Bool.false_and]))
    clear he
    go_enter Try.func17, Try.ntmps17
    go_wp2_with fail
    go_ret2
    exact ⟨ret_d HF.out, Below.refl _ _⟩
end Go.Proofs.Ytaedelcbioiogaa
