/- The walk of the reference's Delay of timetables. -/
import Derived.Test.YtaedelcbioiogaaTtDelay
namespace Go.Proofs.Ytaedelcbioiogaa
set_option linter.unusedVariables false
set_option linter.unusedSimpArgs false
open Go.RowKit
set_option maxRecDepth 100000 in
set_option maxHeartbeats 8000000 in
theorem rdelay_any (l : List Trp) (A : Option Addr) (c : Nat) (st : List (List Int)) (B : Option Addr) (d : Nat) (w : World) (hfew : fewB l = true) (hst : st.length ≤ 9223372036854775807) (hA : RdS cTrp w w.heap.size A l) (hB : RdS (cL cI) w w.heap.size B st) :
    Calls Try.prog 18 #[.slice A l.length c, .slice B st.length d] w fun e w' => e = .returned (.tuple #[.int .i64 (delayOf l st).1, .int .i64 (delayOf l st).2]) ∧ Below w.heap.size w w' := by
  have h20 := few_len hfew
  have HW := Lib.hid hfew
  clear hfew
  cases hsh : shapeB l st
  · have HF := Lib.hid (delay_shape hsh)
    have HSH := Lib.hid hsh
    clear hsh
    go_enter Try.func18, Try.ntmps18
    go_wp2_with fail
    refine (shape_any l A c st B d _ (by omega) hst hA hB).mono ?_
    rw [HSH.out]
    rintro e w1 ⟨rfl, hb⟩
    go_wp2_with fail
    go_ret2
    exact ⟨ret_d HF.out, hb⟩
  · have H1 := Lib.hid hsh
    clear hsh
    have HL := Lib.hid (shape_len H1.out)
    have hst20 : st.length ≤ 20 := by have := HL.out; omega
    go_enter Try.func18, Try.ntmps18
    go_wp2_with fail
    refine (shape_any l A c st B d _ (by omega) hst hA hB).mono ?_
    rw [H1.out]
    rintro e w1 ⟨rfl, hb⟩
    go_wp2_with fail
    go_loopw [6, 7, 8] (fun sm er i wr => ∃ (k : Nat) (S : Int) (E : Bool), k ≤ l.length ∧ i = .int .i64 k ∧ sm = .int .i64 S ∧ er = .bool E ∧ S = sumOf (upTo l st k 0) ∧ E = !((upTo l st k 0).all lateB) ∧ -(214748364800 * (20 * (k : Int))) ≤ S ∧ S ≤ 214748364800 * (20 * (k : Int)) ∧ (upTo l st k 0).all argB = true ∧ Below w.heap.size w wr) (fun _ _ i _ => (l.length - intOf i).toNat)
    case atStart => exact ⟨0, 0, false, by omega, rfl, rfl, rfl, by rw [upTo_zero]; rfl, by rw [upTo_zero]; rfl, by omega, by omega, by rw [upTo_zero]; rfl, hb⟩
    case round =>
      clear hb
      obtain ⟨n, S, E, hk, rfl, rfl, rfl, hS, hE, hS1, hS2, htu, hI⟩ := hrel
      have HS0 := Lib.hid hS
      have HE0 := Lib.hid hE
      have HU := Lib.hid htu
      clear hS htu hE
      have hsz := hI.size
      by_cases hlt : n < l.length
      · have hls : n < st.length := by have := HL.out; omega
        have hXY := shape_row H1.out hlt hls
        have HX := Lib.hid (fun (j : Nat) (h : j < l[n].2.length) (h' : j < st[n].length) (hh : argB (l[n].2[j], st[n][j]) = false) => delay_arg hlt hls h h' hh)
        have HT := Lib.hid (fun (j : Nat) (h : j < l[n].2.length) (h' : j < st[n].length) => upTo_step (j := j) hlt hls h h')
        have HR := Lib.hid (upTo_row hlt hls hXY)
        have hx20 := few_row HW.out hlt
        have HTA := Lib.hid (fun (wq : World) (hq : Below w.heap.size w wq) => trp_at (hA.below hq) hlt)
        have HTB := Lib.hid (fun (wq : World) (hq : Below w.heap.size w wq) => rows_at (hB.below hq) hls)
        clear hA hB
        generalize l[n] = x at HX HT HR hx20 hXY HTA
        generalize st[n] = y at HX HT HR hXY HTB
        have HXY := Lib.hid hXY
        have hy20 : y.length ≤ 20 := by omega
        clear hXY
        have hn : (n : Int) < (l.length : Int) := by omega
        have hn2 : (n : Int) < (st.length : Int) := by omega
        go_wp2_with fail
        go_loopw [6, 7, 9] (fun sm er i wr => ∃ (k : Nat) (S : Int) (E : Bool), k ≤ x.2.length ∧ i = .int .i64 k ∧ sm = .int .i64 S ∧ er = .bool E ∧ S = sumOf (upTo l st n k) ∧ E = !((upTo l st n k).all lateB) ∧ -(214748364800 * (20 * (n : Int) + k)) ≤ S ∧ S ≤ 214748364800 * (20 * (n : Int) + k) ∧ (upTo l st n k).all argB = true ∧ Below w.heap.size w wr) (fun _ _ i _ => (x.2.length - intOf i).toNat)
        case atStart => exact ⟨0, S, E, by omega, rfl, rfl, rfl, HS0.out, HE0.out, by omega, by omega, HU.out, hI⟩
        case round =>
          clear hS1 hS2 hI hsz
          obtain ⟨j, T, E, hj, rfl, rfl, rfl, hT, hE, hT1, hT2, hta, hI⟩ := hrel
          have HA := Lib.hid hta
          have HT0 := Lib.hid hT
          have HE1 := Lib.hid hE
          clear hta hT hE
          have hsz := hI.size
          obtain ⟨b, off, A', c', rfl, hb1, h1, h2, h3, x0, x1⟩ := HTA.out wr hI
          obtain ⟨b', off', A2, c2, rfl, hb2, h4, h5, y0⟩ := HTB.out wr hI
          have hbw : b < wr.heap.size := by omega
          have hbw' : b' < wr.heap.size := by omega
          by_cases hlj : j < x.2.length
          · have hly : j < y.length := by have := HXY.out; omega
            obtain ⟨bs', os', rfl, hb3, _, s0, s1, s2, s3⟩ := stp_at h3 hlj
            obtain ⟨bi, oi, rfl, hb4, _, v0⟩ := ints_at h5 hly
            have hbw3 : bs' < wr.heap.size := by omega
            have hbw4 : bi < wr.heap.size := by omega
            have HF := Lib.hid (HT.out j hlj hly)
            have HG := Lib.hid (HX.out j hlj hly)
            clear h3 h5
            generalize x.2[j] = sa at s0 s1 s2 s3 HF HG
            generalize y[j] = v at v0 HF HG
            obtain ⟨a0, a1, a2, a3⟩ := sa
            have i1 : (j : Int) < (x.2.length : Int) := by omega
            have i2 : (j : Int) < (y.length : Int) := by omega
            by_cases hag : 0 ≤ v ∧ v ≤ 2147483648 ∧ 0 ≤ a1 ∧ a1 ≤ 1073741824 ∧ 0 ≤ a3 ∧ a3 ≤ 100
            · have HY := Lib.hid (show argB ((a0, a1, a2, a3), v) = true by simp [argB]; omega)
              obtain ⟨v1, v2, v3, v4, v5, v6⟩ := hag
              have hc := cost_bd v1 v2 v3 v4 v5 v6
              obtain ⟨hc1, hc2⟩ := hc
              have HC := Lib.hid (show costOf ((a0, a1, a2, a3), v) = a3 * (v - a1) from rfl)
              by_cases hlate : v < a1
              · have HZ := Lib.hid (show lateB ((a0, a1, a2, a3), v) = false by simp [lateB]; omega)
                cases E
                all_goals
                  go_wp2_with fail
                  go_roundw
                  case rel => exact ⟨j + 1, T + a3 * (v - a1), true, by omega, by go_num, rfl, by simp <;> omega, by rw [HF.out, sumOf_snoc, HC.out, HT0.out], by rw [HF.out, List.all_append]; simp [HZ.out], by omega, by omega, by rw [HF.out, List.all_append, HA.out]; simpa using HY.out, bel_two hI (Nat.le_refl _) (by (repeat' (first | (with_reducible exact Below.refl _ _) | (with_reducible assumption) | (with_reducible refine Below.drewN ?_ _) | (with_reducible refine Below.drew ?_) | (with_reducible refine Below.alloc ?_ ?_ _) | (with_reducible refine Below.setCell ?_ ?_ _) | (with_reducible exact Nat.le_refl _) | (with_reducible exact Below.size (by assumption)) | omega | (simp only [World.size_alloc, World.size_setCell, World.size_drew]; omega) | (simp; done) | (simp; omega))))⟩
                  case measure => simp [intOf] <;> omega
              · have HZ := Lib.hid (show lateB ((a0, a1, a2, a3), v) = true by simp [lateB]; omega)
                have hl2 : a1 ≤ v := by omega
                cases E
                · go_wp2_with fail
                  go_roundw
                  case rel => exact ⟨j + 1, T + a3 * (v - a1), false, by omega, by go_num, rfl, by simp <;> omega, by rw [HF.out, sumOf_snoc, HC.out, HT0.out], by rw [HF.out, List.all_append]; have := HE1.out; simp [HZ.out]; simpa using this, by omega, by omega, by rw [HF.out, List.all_append, HA.out]; simpa using HY.out, bel_two hI (Nat.le_refl _) (by (repeat' (first | (with_reducible exact Below.refl _ _) | (with_reducible assumption) | (with_reducible refine Below.drewN ?_ _) | (with_reducible refine Below.drew ?_) | (with_reducible refine Below.alloc ?_ ?_ _) | (with_reducible refine Below.setCell ?_ ?_ _) | (with_reducible exact Nat.le_refl _) | (with_reducible exact Below.size (by assumption)) | omega | (simp only [World.size_alloc, World.size_setCell, World.size_drew]; omega) | (simp; done) | (simp; omega))))⟩
                  case measure => simp [intOf] <;> omega
                · go_wp2_with fail
                  go_roundw
                  case rel => exact ⟨j + 1, T + a3 * (v - a1), true, by omega, by go_num, rfl, by simp <;> omega, by rw [HF.out, sumOf_snoc, HC.out, HT0.out], by rw [HF.out, List.all_append]; have := HE1.out; simp [HZ.out]; simpa using this, by omega, by omega, by rw [HF.out, List.all_append, HA.out]; simpa using HY.out, bel_two hI (Nat.le_refl _) (by (repeat' (first | (with_reducible exact Below.refl _ _) | (with_reducible assumption) | (with_reducible refine Below.drewN ?_ _) | (with_reducible refine Below.drew ?_) | (with_reducible refine Below.alloc ?_ ?_ _) | (with_reducible refine Below.setCell ?_ ?_ _) | (with_reducible exact Nat.le_refl _) | (with_reducible exact Below.size (by assumption)) | omega | (simp only [World.size_alloc, World.size_setCell, World.size_drew]; omega) | (simp; done) | (simp; omega))))⟩
                  case measure => simp [intOf] <;> omega
            · have HZ := Lib.hid (HG.out (show argB ((a0, a1, a2, a3), v) = false by simp [argB]; omega))
              go_wp2_with fail
              all_goals first
                | (exfalso; omega)
                | (go_ret2
                   exact ⟨ret_d HZ.out, bel_two hI (Nat.le_refl _) (by (repeat' (first | (with_reducible exact Below.refl _ _) | (with_reducible assumption) | (with_reducible refine Below.drewN ?_ _) | (with_reducible refine Below.drew ?_) | (with_reducible refine Below.alloc ?_ ?_ _) | (with_reducible refine Below.setCell ?_ ?_ _) | (with_reducible exact Nat.le_refl _) | (with_reducible exact Below.size (by assumption)) | omega | (simp only [World.size_alloc, World.size_setCell, World.size_drew]; omega) | (simp; done) | (simp; omega))))⟩)
          · have he : j = x.2.length := by omega
            subst he
            have HG := Lib.hid (show E = !((upTo l st (n + 1) 0).all lateB) by rw [← HR.out]; exact HE1.out)
            have HG2 := Lib.hid (show T = sumOf (upTo l st (n + 1) 0) by rw [← HR.out]; exact HT0.out)
            have HG3 := Lib.hid (show (upTo l st (n + 1) 0).all argB = true by rw [← HR.out]; exact HA.out)
            go_wp2_with fail
            go_roundw
            case rel => exact ⟨n + 1, T, E, by omega, by go_num, rfl, rfl, HG2.out, HG.out, by omega, by omega, HG3.out, hI⟩
            case measure => simp [intOf] <;> omega
      · have hn : n = l.length := by omega
        have H2 := Lib.hid (show (pairs l st).all argB = true by rw [← upTo_end HL.out, ← hn]; exact HU.out)
        have H3 := Lib.hid (show S = sumOf (pairs l st) by rw [← upTo_end HL.out, ← hn]; exact HS0.out)
        have H4 := Lib.hid (show E = !((pairs l st).all lateB) by rw [← upTo_end HL.out, ← hn]; exact HE0.out)
        clear hn
        cases E
        · have HN := Lib.hid (show delayOf l st = (S, 0) by
            have := H4.out
            rw [delay_ok H1.out H2.out (by simpa using this.symm), ← H3.out])
          go_wp2_with fail
          go_ret2
          exact ⟨ret_d HN.out, hI⟩
        · have HN := Lib.hid (show delayOf l st = (0, 7) by
            have := H4.out
            exact delay_early H1.out H2.out (by simpa using this.symm))
          go_wp2_with fail
          go_ret2
          exact ⟨ret_d HN.out, hI⟩
end Go.Proofs.Ytaedelcbioiogaa
