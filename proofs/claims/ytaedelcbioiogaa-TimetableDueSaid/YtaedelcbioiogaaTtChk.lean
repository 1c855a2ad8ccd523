/- The walk of Check of timetables. -/
import Derived.Test.YtaedelcbioiogaaTtWalksC
import Derived.Deep.RegionHeld3
import Derived.Deep.Cut
import Derived.IntWalk
namespace Go.Proofs.Ytaedelcbioiogaa
set_option linter.unusedVariables false
set_option linter.unusedSimpArgs false
open Go.RowKit
theorem chk_long {R : List Rte} {l : List Trp} (h : 4 < l.length) : chk R l = 2 := by unfold chk; rw [if_pos h]
theorem chk_len {R : List Rte} {l : List Trp} (h : ¬ 4 < l.length) (h1 : l.all lenB = false) : chk R l = 2 := by unfold chk; rw [if_neg h, if_pos h1]
theorem chk_arg {R : List Rte} {l : List Trp} (h : ¬ 4 < l.length) (h1 : l.all lenB = true) (h2 : l.all (trpB R.length) = false) : chk R l = 1 := by
  unfold chk; rw [if_neg h, if_neg (by simp [h1]), if_pos h2]
theorem chk_dup {R : List Rte} {l : List Trp} (h : ¬ 4 < l.length) (h1 : l.all lenB = true) (h2 : l.all (trpB R.length) = true) (h3 : dupsB l l.length = false) : chk R l = 8 := by
  unfold chk; rw [if_neg h, if_neg (by simp [h1]), if_neg (by simp [h2]), if_pos h3]
theorem chk_fol {R : List Rte} {l : List Trp} (h : ¬ 4 < l.length) (h1 : l.all lenB = true) (h2 : l.all (trpB R.length) = true) (h3 : dupsB l l.length = true) (h4 : (l.all fun p => adjB (folB R) p.2 (p.2.length - 1)) = false) : chk R l = 10 := by
  unfold chk; rw [if_neg h, if_neg (by simp [h1]), if_neg (by simp [h2]), if_neg (by simp [h3]), if_pos h4]
theorem chk_ord {R : List Rte} {l : List Trp} (h : ¬ 4 < l.length) (h1 : l.all lenB = true) (h2 : l.all (trpB R.length) = true) (h3 : dupsB l l.length = true) (h4 : (l.all fun p => adjB (folB R) p.2 (p.2.length - 1)) = true) (h5 : (l.all fun p => adjB ordB p.2 (p.2.length - 1)) = false) : chk R l = 7 := by
  unfold chk; rw [if_neg h, if_neg (by simp [h1]), if_neg (by simp [h2]), if_neg (by simp [h3]), if_neg (by simp [h4]), if_pos h5]
theorem chk_ok {R : List Rte} {l : List Trp} (h : ¬ 4 < l.length) (h1 : l.all lenB = true) (h2 : l.all (trpB R.length) = true) (h3 : dupsB l l.length = true) (h4 : (l.all fun p => adjB (folB R) p.2 (p.2.length - 1)) = true) (h5 : (l.all fun p => adjB ordB p.2 (p.2.length - 1)) = true) : chk R l = 0 := by
  unfold chk; rw [if_neg h, if_neg (by simp [h1]), if_neg (by simp [h2]), if_neg (by simp [h3]), if_neg (by simp [h4]), if_neg (by simp [h5])]
theorem all_end {α : Type} {p : α → Bool} {l : List α} {k : Nat} (h : ¬ k < l.length) (ha : (l.take k).all p = true) : l.all p = true := by rwa [List.take_of_length_le (by omega)] at ha
theorem take_getD {l : List Trp} {i j : Nat} (hj : j < i) (hi : i < l.length) : (l.take i).getD j nt = l.getD j nt := by
  simp [List.getElem?_take, hj]
theorem dup_at {l : List Trp} {i j : Nat} (hj : j < i) (hi : i < l.length) (h : l[j].1 = l[i].1) : dupB l i = true := by
  unfold dupB
  rw [List.any_eq_true]
  refine ⟨l[j], ?_, by simp [hi, h]⟩
  rw [List.mem_iff_getElem]
  exact ⟨j, by simp; omega, by simp⟩
theorem dup_none {l : List Trp} {i : Nat} (hi : i < l.length) (h : ((l.take i).any fun q => q.1 == l[i].1) = false) : dupB l i = false := by
  unfold dupB
  have hd : l.getD i nt = l[i] := by simp [hi]
  rw [hd]; exact h
theorem any_step {l : List Trp} {i j : Nat} (hj : j < i) (hi : i < l.length) (k : Int) : (l.take (j + 1)).any (fun q => q.1 == k) = ((l.take j).any (fun q => q.1 == k) || l[j].1 == k) := any_take (fun q : Trp => q.1 == k) (show j < l.length by omega)
theorem bool_of_not {b : Bool} (h : ¬ b = true) : b = false := by simpa using h
/-- What each loop keeps: the box of the table, and that nothing that was there has turned. -/
structure ChkI (w : World) (bt : Nat) (t : TypeId) (cs : Array Value) (wr : World) : Prop where
  box : Blk wr bt t cs
  below : Below w.heap.size w wr
  size : w.heap.size ≤ wr.heap.size
theorem ChkI.step {w w1 w2 : World} {bt : Nat} {t : TypeId} {cs : Array Value} (h : ChkI w bt t cs w1) (hb : Below w1.heap.size w1 w2) : ChkI w bt t cs w2 :=
  ⟨h.box.now hb, bel_then h.below h.size hb, Nat.le_trans h.size hb.size⟩
set_option maxRecDepth 100000 in
set_option maxHeartbeats 8000000 in
theorem check_any (R : List Rte) (B : Option Addr) (d : Nat) (y z : Sl) (s g : Int) (l : List Trp) (A : Option Addr) (c : Nat) (w : World) (hlR : R.length ≤ 9223372036854775807) (hl : l.length ≤ c) (hc63 : c ≤ 9223372036854775807) (hR : RdS cRte w w.heap.size B R) (hA : RdS cTrp w w.heap.size A l) :
    Calls Try.prog 10 #[.agg #[.slice B R.length d, .slice y.1 y.2.1 y.2.2, .slice z.1 z.2.1 z.2.2, .int .i64 s, .int .i64 g], .slice A l.length c] w fun e w' => e = .returned (.int .i64 (chk R l)) ∧ Below w.heap.size w w' := by
  by_cases hlong : 4 < l.length
  · have HF := Lib.hid (chk_long (R := R) hlong)
    go_enter Try.func10, Try.ntmps10
    go_wp2_with fail
    go_ret
    exact ⟨by rw [HF.out]; rfl, by (repeat' (first | (with_reducible exact Below.refl _ _) | (with_reducible assumption) | (with_reducible refine Below.drewN ?_ _) | (with_reducible refine Below.drew ?_) | (with_reducible refine Below.alloc ?_ ?_ _) | (with_reducible refine Below.setCell ?_ ?_ _) | (with_reducible exact Nat.le_refl _) | (with_reducible exact Below.size (by assumption)) | omega | (simp only [World.size_alloc, World.size_setCell, World.size_drew]; omega) | (simp; done) | (simp; omega)))⟩
  · have HN := Lib.hid hlong
    have hl4 : l.length ≤ 4 := by omega
    clear hlong
    go_enter Try.func10, Try.ntmps10
    go_wp2_with fail
    go_loopw [26] (fun i wr => ∃ k : Nat, k ≤ l.length ∧ i = .int .i64 k ∧ (l.take k).all lenB = true ∧ ChkI w w.heap.size 25 #[.slice B R.length d, .slice y.1 y.2.1 y.2.2, .slice z.1 z.2.1 z.2.2, .int .i64 s, .int .i64 g] wr) (fun i _ => (l.length - intOf i).toNat)
    case atStart => exact ⟨0, by omega, rfl, rfl, ⟨Blk.new _ _ _ _ rfl, by (repeat' (first | (with_reducible exact Below.refl _ _) | (with_reducible assumption) | (with_reducible refine Below.drewN ?_ _) | (with_reducible refine Below.drew ?_) | (with_reducible refine Below.alloc ?_ ?_ _) | (with_reducible refine Below.setCell ?_ ?_ _) | (with_reducible exact Nat.le_refl _) | (with_reducible exact Below.size (by assumption)) | omega | (simp only [World.size_alloc, World.size_setCell, World.size_drew]; omega) | (simp; done) | (simp; omega))), by simp⟩⟩
    case round =>
      obtain ⟨n, hk, rfl, htk, hI⟩ := hrel
      have HK := Lib.hid htk
      clear htk
      have hz0 := hI.box.lt
      by_cases hlt : n < l.length
      · obtain ⟨b, off, A', c', rfl, hb1, h1, h2, h3, x0, x1⟩ := trp_at (hA.below hI.below) hlt
        have HS := Lib.hid (all_take lenB hlt)
        have HD := Lib.hid (fun h => chk_len (R := R) HN.out (all_no (p := lenB) hlt h))
        clear hA hR
        generalize l[n] = x at h1 h2 h3 x0 x1 HS HD
        have hn : (n : Int) < (l.length : Int) := by omega
        have hm : x.2.length ≤ 9223372036854775807 := Nat.le_trans h2 (by decide)
        by_cases hx : 1 ≤ x.2.length ∧ x.2.length ≤ 4
        · obtain ⟨q1, q2⟩ := hx
          have d1 : decide ((x.2.length : Int) < 1) = false := by simp; omega
          have d2 : decide (4 < (x.2.length : Int)) = false := by simp; omega
          go_wp2_with fail
          go_roundw
          case rel => exact ⟨n + 1, by omega, by go_num, by rw [HS.out, HK.out]; simp [lenB]; omega, hI.step (by (repeat' (first | (with_reducible exact Below.refl _ _) | (with_reducible assumption) | (with_reducible refine Below.drewN ?_ _) | (with_reducible refine Below.drew ?_) | (with_reducible refine Below.alloc ?_ ?_ _) | (with_reducible refine Below.setCell ?_ ?_ _) | (with_reducible exact Nat.le_refl _) | (with_reducible exact Below.size (by assumption)) | omega | (simp only [World.size_alloc, World.size_setCell, World.size_drew]; omega) | (simp; done) | (simp; omega))))⟩
          case measure => simp [intOf] <;> omega
        · have hno : lenB x = false := by simp [lenB]; omega
          have HX := Lib.hid (HD.out hno)
          clear hno
          by_cases q1 : 1 ≤ x.2.length
          · have q2 : 4 < x.2.length := by omega
            have d1 : decide ((x.2.length : Int) < 1) = false := by simp; omega
            have d2 : decide (4 < (x.2.length : Int)) = true := by simp; omega
            go_wp2_with fail
            go_ret
            exact ⟨by rw [HX.out]; rfl, (hI.step (by (repeat' (first | (with_reducible exact Below.refl _ _) | (with_reducible assumption) | (with_reducible refine Below.drewN ?_ _) | (with_reducible refine Below.drew ?_) | (with_reducible refine Below.alloc ?_ ?_ _) | (with_reducible refine Below.setCell ?_ ?_ _) | (with_reducible exact Nat.le_refl _) | (with_reducible exact Below.size (by assumption)) | omega | (simp only [World.size_alloc, World.size_setCell, World.size_drew]; omega) | (simp; done) | (simp; omega))))).below⟩
          · have d1 : decide ((x.2.length : Int) < 1) = true := by simp; omega
            go_wp2_with fail
            go_ret
            exact ⟨by rw [HX.out]; rfl, (hI.step (by (repeat' (first | (with_reducible exact Below.refl _ _) | (with_reducible assumption) | (with_reducible refine Below.drewN ?_ _) | (with_reducible refine Below.drew ?_) | (with_reducible refine Below.alloc ?_ ?_ _) | (with_reducible refine Below.setCell ?_ ?_ _) | (with_reducible exact Nat.le_refl _) | (with_reducible exact Below.size (by assumption)) | omega | (simp only [World.size_alloc, World.size_setCell, World.size_drew]; omega) | (simp; done) | (simp; omega))))).below⟩
      · have H1 := Lib.hid (all_end hlt HK.out)
        clear HK hk
        obtain ⟨w1, rfl⟩ : ∃ w1 : World, w1 = wr := ⟨_, rfl⟩
        go_wp2_with fail
        clear hlt
        go_loopw [43] (fun i wr => ∃ k : Nat, k ≤ l.length ∧ i = .int .i64 k ∧ (l.take k).all (trpB R.length) = true ∧ ChkI w w.heap.size 25 #[.slice B R.length d, .slice y.1 y.2.1 y.2.2, .slice z.1 z.2.1 z.2.2, .int .i64 s, .int .i64 g] wr) (fun i _ => (l.length - intOf i).toNat)
        case atStart => exact ⟨0, by omega, rfl, rfl, hI⟩
        case round =>
          clear hI
          obtain ⟨n, hk, rfl, htk, hI⟩ := hrel
          have HK := Lib.hid htk
          clear htk
          have hz0 := hI.box.lt
          by_cases hlt : n < l.length
          · obtain ⟨b, off, A', c', rfl, hb1, h1, h2, h3, x0, x1⟩ := trp_at (hA.below hI.below) hlt
            have HS := Lib.hid (all_take (trpB R.length) hlt)
            have HD := Lib.hid (fun h => chk_arg (R := R) HN.out H1.out (all_no (p := trpB R.length) hlt h))
            clear hA hR
            generalize l[n] = x at h1 h2 h3 x0 x1 HS HD
            have hn : (n : Int) < (l.length : Int) := by omega
            have hm : x.2.length ≤ 9223372036854775807 := Nat.le_trans h2 (by decide)
            have b0 := hI.box.cell 0
            have b1 := hI.box.cell 1
            have b2 := hI.box.cell 2
            have b3 := hI.box.cell 3
            have b4 := hI.box.cell 4
            simp only [List.getElem?_toArray, List.getElem?_cons_succ, List.getElem?_cons_zero] at b0 b1 b2 b3 b4
            go_wp2_with fail
            refine (plain_any R B d y z s g x A' c' _ hlR hm ((h3.keep fun p hp => World.cell?_alloc_lt _ _ p (by have := hI.size; omega)).more (by have := hI.size; simp; omega))).mono ?_
            cases hx : trpB R.length x
            · rintro e w2 ⟨rfl, hb⟩
              have HX := Lib.hid (HD.out hx)
              go_wp2_with fail
              go_ret
              exact ⟨by rw [HX.out]; rfl, (hI.step (bel_then ((Below.refl _ _).alloc (Nat.le_refl _) _) (by simp) hb)).below⟩
            · rintro e w2 ⟨rfl, hb⟩
              have HX := Lib.hid hx
              clear hx
              go_wp2_with fail
              go_roundw
              case rel => exact ⟨n + 1, by omega, by go_num, by rw [HS.out, HK.out, HX.out]; rfl, hI.step (bel_then ((Below.refl _ _).alloc (Nat.le_refl _) _) (by simp) hb)⟩
              case measure => simp [intOf] <;> omega
          · have H2 := Lib.hid (all_end hlt HK.out)
            clear HK hk
            obtain ⟨w2, rfl⟩ : ∃ w2 : World, w2 = wr := ⟨_, rfl⟩
            go_wp2_with fail
            clear hlt
            go_loopw [54] (fun i wr => ∃ k : Nat, k ≤ l.length ∧ i = .int .i64 k ∧ dupsB l k = true ∧ ChkI w w.heap.size 25 #[.slice B R.length d, .slice y.1 y.2.1 y.2.2, .slice z.1 z.2.1 z.2.2, .int .i64 s, .int .i64 g] wr) (fun i _ => (l.length - intOf i).toNat)
            case atStart => exact ⟨0, by omega, rfl, rfl, hI⟩
            case round =>
              clear hI
              obtain ⟨n, hk, rfl, htk, hI⟩ := hrel
              have HK := Lib.hid htk
              clear htk
              have hz0 := hI.box.lt
              obtain ⟨wo, rfl⟩ : ∃ wo : World, wo = wr := ⟨_, rfl⟩
              by_cases hlt : n < l.length
              · obtain ⟨b, off, A', c', rfl, hb1, h1, h2, h3, x0, x1⟩ := trp_at (hA.below hI.below) hlt
                have HS := Lib.hid (fun h : dupB l n = false => show dupsB l (n + 1) = true by rw [dupsB_succ, HK.out, h]; rfl)
                have HE := Lib.hid (dup_none hlt)
                have HD := Lib.hid (fun (j : Nat) (hj : j < n) (h : l[j].1 = l[n].1) => chk_dup (R := R) HN.out H1.out H2.out (dupsB_false hlt (dup_at hj hlt h)))
                generalize hx : l[n] = x at h1 h2 h3 x0 x1 HE HD
                have HX := Lib.hid hx
                clear hx
                have hn : (n : Int) < (l.length : Int) := by omega
                have hcc : (n : Int) ≤ (c : Int) := by omega
                go_wp2_with fail
                go_loopw [63] (fun i wr => ∃ k : Nat, k ≤ n ∧ i = .int .i64 k ∧ ((l.take k).any fun q => q.1 == x.1) = false ∧ Blk wr wo.heap.size 50 #[.int .i64 x.1, .slice A' x.2.length c'] ∧ ChkI w w.heap.size 25 #[.slice B R.length d, .slice y.1 y.2.1 y.2.2, .slice z.1 z.2.1 z.2.2, .int .i64 s, .int .i64 g] wr) (fun i _ => (n - intOf i).toNat)
                case atStart => exact ⟨0, by omega, rfl, rfl, Blk.new _ _ _ _ rfl, hI.step (by (repeat' (first | (with_reducible exact Below.refl _ _) | (with_reducible assumption) | (with_reducible refine Below.drewN ?_ _) | (with_reducible refine Below.drew ?_) | (with_reducible refine Below.alloc ?_ ?_ _) | (with_reducible refine Below.setCell ?_ ?_ _) | (with_reducible exact Nat.le_refl _) | (with_reducible exact Below.size (by assumption)) | omega | (simp only [World.size_alloc, World.size_setCell, World.size_drew]; omega) | (simp; done) | (simp; omega))))⟩
                case round =>
                  obtain ⟨j, hj, rfl, hta, hP, hJ⟩ := hrel
                  have HA := Lib.hid hta
                  clear hta
                  have hz1 := hP.lt
                  have p0 := hP.cell 0
                  simp only [List.getElem?_toArray, List.getElem?_cons_zero] at p0
                  by_cases hlj : j < n
                  · have hjl : j < l.length := by omega
                    obtain ⟨_, _, A2, c2, e, hb2, h4, h5, h6, y0, y1⟩ := trp_at (hA.below hJ.below) hjl
                    cases e
                    have HT := Lib.hid (any_step hlj hlt x.1)
                    have HF := Lib.hid (HD.out j hlj)
                    clear hA hR x0 x1
                    generalize l[j] = y at h4 h5 h6 y0 y1 HT HF
                    have hjn : (j : Int) < (n : Int) := by omega
                    have hb3 : b < wr.heap.size := by have := hJ.size; omega
                    by_cases hxy : y.1 = x.1
                    · have HG := Lib.hid (HF.out hxy)
                      have t1 : (x.1 == y.1) = true := by simp [hxy]
                      clear hxy
                      go_wp2_with fail
                      go_ret
                      exact ⟨by rw [HG.out]; rfl, (hJ.step (by (repeat' (first | (with_reducible exact Below.refl _ _) | (with_reducible assumption) | (with_reducible refine Below.drewN ?_ _) | (with_reducible refine Below.drew ?_) | (with_reducible refine Below.alloc ?_ ?_ _) | (with_reducible refine Below.setCell ?_ ?_ _) | (with_reducible exact Nat.le_refl _) | (with_reducible exact Below.size (by assumption)) | omega | (simp only [World.size_alloc, World.size_setCell, World.size_drew]; omega) | (simp; done) | (simp; omega))))).below⟩
                    · have t1 : (x.1 == y.1) = false := by rw [beq_eq_false_iff_ne]; exact Ne.symm hxy
                      have t2 : (y.1 == x.1) = false := by rw [beq_eq_false_iff_ne]; exact hxy
                      have T2 := Lib.hid t2
                      clear hxy t2
                      go_wp2_with fail
                      go_roundw
                      case rel => exact ⟨j + 1, by omega, by go_num, by rw [HT.out, HA.out, T2.out]; rfl, by (repeat' (first | (with_reducible assumption) | (with_reducible refine Blk.new _ _ _ _ ?_) | (with_reducible refine Blk.drewN ?_ _) | (with_reducible refine Blk.drew ?_) | (with_reducible refine Blk.alloc ?_ _) | (with_reducible refine Blk.far ?_ ?_ _) | rfl | omega | (simp; done) | (simp; omega))), hJ.step (by (repeat' (first | (with_reducible exact Below.refl _ _) | (with_reducible assumption) | (with_reducible refine Below.drewN ?_ _) | (with_reducible refine Below.drew ?_) | (with_reducible refine Below.alloc ?_ ?_ _) | (with_reducible refine Below.setCell ?_ ?_ _) | (with_reducible exact Nat.le_refl _) | (with_reducible exact Below.size (by assumption)) | omega | (simp only [World.size_alloc, World.size_setCell, World.size_drew]; omega) | (simp; done) | (simp; omega))))⟩
                      case measure => simp [intOf] <;> omega
                  · have he : j = n := by omega
                    subst he
                    have HG := Lib.hid (HS.out (HE.out HA.out))
                    go_wp2_with fail
                    go_roundw
                    case rel => exact ⟨j + 1, by omega, by go_num, HG.out, hJ⟩
                    case measure => simp [intOf] <;> omega
              · have H3 := Lib.hid (show dupsB l l.length = true by
                  have hn : n = l.length := by omega
                  rw [← hn]; exact HK.out)
                clear HK hk
                go_wp2_with fail
                clear hlt
                go_loopw [76] (fun i wr => ∃ k : Nat, k ≤ l.length ∧ i = .int .i64 k ∧ (l.take k).all (fun p => adjB (folB R) p.2 (p.2.length - 1)) = true ∧ ChkI w w.heap.size 25 #[.slice B R.length d, .slice y.1 y.2.1 y.2.2, .slice z.1 z.2.1 z.2.2, .int .i64 s, .int .i64 g] wr) (fun i _ => (l.length - intOf i).toNat)
                case atStart => exact ⟨0, by omega, rfl, rfl, hI⟩
                case round =>
                  clear hI
                  obtain ⟨n, hk, rfl, htk, hI⟩ := hrel
                  have HK := Lib.hid htk
                  clear htk
                  have hz0 := hI.box.lt
                  obtain ⟨wo, rfl⟩ : ∃ wo : World, wo = wr := ⟨_, rfl⟩
                  by_cases hlt : n < l.length
                  · obtain ⟨b, off, A', c', rfl, hb1, h1, h2, h3, x0, x1⟩ := trp_at (hA.below hI.below) hlt
                    have HS := Lib.hid (all_take (fun p : Trp => adjB (folB R) p.2 (p.2.length - 1)) hlt)
                    have HD := Lib.hid (fun h => chk_fol (R := R) HN.out H1.out H2.out H3.out (all_no (p := fun p : Trp => adjB (folB R) p.2 (p.2.length - 1)) hlt h))
                    have hL1 : 1 ≤ l[n].2.length ∧ l[n].2.length ≤ 4 := by
                      have := all_at H1.out hlt
                      simpa [lenB] using this
                    have HT := Lib.hid (show l[n].2.all (stpB R.length) = true by
                      have := all_at H2.out hlt
                      unfold trpB at this
                      simp only [Bool.and_eq_true] at this
                      exact this.2)
                    generalize l[n] = x at h1 h2 h3 x0 x1 HS HD hL1 HT
                    obtain ⟨hL1, hL2⟩ := hL1
                    have hn : (n : Int) < (l.length : Int) := by omega
                    go_wp2_with fail
                    go_loopw [84] (fun i wr => ∃ k : Nat, k ≤ x.2.length - 1 ∧ i = .int .i64 k ∧ adjB (folB R) x.2 k = true ∧ Blk wr wo.heap.size 50 #[.int .i64 x.1, .slice A' x.2.length c'] ∧ ChkI w w.heap.size 25 #[.slice B R.length d, .slice y.1 y.2.1 y.2.2, .slice z.1 z.2.1 z.2.2, .int .i64 s, .int .i64 g] wr) (fun i _ => (x.2.length - intOf i).toNat)
                    case atStart => exact ⟨0, by omega, rfl, rfl, Blk.new _ _ _ _ rfl, hI.step (by (repeat' (first | (with_reducible exact Below.refl _ _) | (with_reducible assumption) | (with_reducible refine Below.drewN ?_ _) | (with_reducible refine Below.drew ?_) | (with_reducible refine Below.alloc ?_ ?_ _) | (with_reducible refine Below.setCell ?_ ?_ _) | (with_reducible exact Nat.le_refl _) | (with_reducible exact Below.size (by assumption)) | omega | (simp only [World.size_alloc, World.size_setCell, World.size_drew]; omega) | (simp; done) | (simp; omega))))⟩
                    case round =>
                      obtain ⟨j, hj, rfl, hta, hP, hJ⟩ := hrel
                      have HA := Lib.hid hta
                      clear hta
                      have hz1 := hP.lt
                      have hz2 := hJ.box.lt
                      by_cases hlj : j < x.2.length - 1
                      · have hj1 : j < x.2.length := by omega
                        have hj2 : j + 1 < x.2.length := by omega
                        have g3 : RdS cStp wr w.heap.size A' x.2 := h3.keep fun p hp => (hJ.below.cell hp).trans (hI.below.cell hp).symm
                        obtain ⟨bs', os', rfl, hb2, _, s1, _, _, _⟩ := stp_at g3 hj1
                        obtain ⟨_, _, e, _, _, s2, _, _, _⟩ := stp_at g3 hj2
                        cases e
                        have q1 := all_at HT.out hj1
                        have q2 := all_at HT.out hj2
                        simp only [stpB, decide_eq_true_eq] at q1 q2
                        obtain ⟨r1, e1⟩ := Int.eq_ofNat_of_zero_le q1.1
                        obtain ⟨r2, e2⟩ := Int.eq_ofNat_of_zero_le q2.1
                        have hr1 : r1 < R.length := by omega
                        have hr2 : r2 < R.length := by omega
                        rw [e1] at s1
                        rw [e2] at s2
                        have HF := Lib.hid (show adjB (folB R) x.2 (j + 1) = (adjB (folB R) x.2 j && folR R[r1] R[r2]) by
                          rw [adjB_succ]; simp [folB, hj1, hj2, e1, e2, hr1, hr2])
                        have HG := Lib.hid (fun h : folR R[r1] R[r2] = false => HD.out (adjB_false (f := folB R) (l := x.2) hlj (by simp [folB, hj1, hj2, e1, e2, hr1, hr2, h])))
                        clear q1 q2 e1 e2 g3 h3
                        obtain ⟨bR, oR, rfl, hbR, okA, x2, x3, x4, x5, x6, x7, x8, x9, x10, x11, x12, x13, x14, x15⟩ := rte_at (hR.below hJ.below) hr1
                        obtain ⟨_, _, e, _, okB, y2, y3, y4, y5, y6, y7, y8, y9, y10, y11, y12, y13, y14, y15⟩ := rte_at (hR.below hJ.below) hr2
                        cases e
                        generalize R[r1] = ra at okA x2 x3 x4 x5 x6 x7 x8 x9 x10 x11 x12 x13 x14 x15 HF HG
                        generalize R[r2] = rb at okB y2 y3 y4 y5 y6 y7 y8 y9 y10 y11 y12 y13 y14 y15 HF HG
                        have b0 := hJ.box.cell 0
                        have p1 := hP.cell 1
                        simp only [List.getElem?_toArray, List.getElem?_cons_succ, List.getElem?_cons_zero] at b0 p1
                        have hmk : ∀ w', Below wr.heap.size wr w' → Below wr.heap.size wr w' ∧ w'.cell? ⟨w.heap.size, 0, none⟩ = some (.slice (some ⟨bR, oR, none⟩) R.length d) ∧ w'.cell? ⟨wo.heap.size, 1, none⟩ = some (.slice (some ⟨bs', os', none⟩) x.2.length c') ∧ w'.cell? ⟨bs', os' + j * 4, none⟩ = some (.int .i64 (r1 : Int)) ∧ w'.cell? ⟨bs', os' + (j + 1) * 4, none⟩ = some (.int .i64 (r2 : Int)) ∧ w'.cell? ⟨bR, oR + r1 * 14, none⟩ = some (.string ra.nm) ∧ w'.cell? ⟨bR, oR + r1 * 14 + 1, none⟩ = some (.int .i64 ra.entry) ∧ w'.cell? ⟨bR, oR + r1 * 14 + 2, none⟩ = some (.int .i64 ra.exit) ∧ w'.cell? ⟨bR, oR + r1 * 14 + 3, none⟩ = some (.slice ra.s3.1 ra.s3.2.1 ra.s3.2.2) ∧ w'.cell? ⟨bR, oR + r1 * 14 + 4, none⟩ = some (.slice ra.s4.1 ra.s4.2.1 ra.s4.2.2) ∧ w'.cell? ⟨bR, oR + r1 * 14 + 5, none⟩ = some (.slice ra.s5.1 ra.s5.2.1 ra.s5.2.2) ∧ w'.cell? ⟨bR, oR + r1 * 14 + 6, none⟩ = some (.int .i64 ra.appr) ∧ w'.cell? ⟨bR, oR + r1 * 14 + 7, none⟩ = some (.int .i64 ra.len) ∧ w'.cell? ⟨bR, oR + r1 * 14 + 8, none⟩ = some (.slice ra.s8.1 ra.s8.2.1 ra.s8.2.2) ∧ w'.cell? ⟨bR, oR + r1 * 14 + 9, none⟩ = some (.slice ra.s9.1 ra.s9.2.1 ra.s9.2.2) ∧ w'.cell? ⟨bR, oR + r1 * 14 + 10, none⟩ = some (.slice ra.s10.1 ra.s10.2.1 ra.s10.2.2) ∧ w'.cell? ⟨bR, oR + r1 * 14 + 11, none⟩ = some (.slice ra.s11.1 ra.s11.2.1 ra.s11.2.2) ∧ w'.cell? ⟨bR, oR + r1 * 14 + 12, none⟩ = some (.slice ra.s12.1 ra.s12.2.1 ra.s12.2.2) ∧ w'.cell? ⟨bR, oR + r1 * 14 + 13, none⟩ = some (.slice ra.s13.1 ra.s13.2.1 ra.s13.2.2) ∧ w'.cell? ⟨bR, oR + r2 * 14, none⟩ = some (.string rb.nm) ∧ w'.cell? ⟨bR, oR + r2 * 14 + 1, none⟩ = some (.int .i64 rb.entry) ∧ w'.cell? ⟨bR, oR + r2 * 14 + 2, none⟩ = some (.int .i64 rb.exit) ∧ w'.cell? ⟨bR, oR + r2 * 14 + 3, none⟩ = some (.slice rb.s3.1 rb.s3.2.1 rb.s3.2.2) ∧ w'.cell? ⟨bR, oR + r2 * 14 + 4, none⟩ = some (.slice rb.s4.1 rb.s4.2.1 rb.s4.2.2) ∧ w'.cell? ⟨bR, oR + r2 * 14 + 5, none⟩ = some (.slice rb.s5.1 rb.s5.2.1 rb.s5.2.2) ∧ w'.cell? ⟨bR, oR + r2 * 14 + 6, none⟩ = some (.int .i64 rb.appr) ∧ w'.cell? ⟨bR, oR + r2 * 14 + 7, none⟩ = some (.int .i64 rb.len) ∧ w'.cell? ⟨bR, oR + r2 * 14 + 8, none⟩ = some (.slice rb.s8.1 rb.s8.2.1 rb.s8.2.2) ∧ w'.cell? ⟨bR, oR + r2 * 14 + 9, none⟩ = some (.slice rb.s9.1 rb.s9.2.1 rb.s9.2.2) ∧ w'.cell? ⟨bR, oR + r2 * 14 + 10, none⟩ = some (.slice rb.s10.1 rb.s10.2.1 rb.s10.2.2) ∧ w'.cell? ⟨bR, oR + r2 * 14 + 11, none⟩ = some (.slice rb.s11.1 rb.s11.2.1 rb.s11.2.2) ∧ w'.cell? ⟨bR, oR + r2 * 14 + 12, none⟩ = some (.slice rb.s12.1 rb.s12.2.1 rb.s12.2.2) ∧ w'.cell? ⟨bR, oR + r2 * 14 + 13, none⟩ = some (.slice rb.s13.1 rb.s13.2.1 rb.s13.2.2) := fun w' hq => by
                          have k0 := fun o => hq.cell (p := ⟨w.heap.size, o, none⟩) hz2
                          have k1 := fun o => hq.cell (p := ⟨wo.heap.size, o, none⟩) hz1
                          have k2 := fun o => hq.cell (p := ⟨bs', o, none⟩) (show bs' < wr.heap.size by omega)
                          have k3 := fun o => hq.cell (p := ⟨bR, o, none⟩) (show bR < wr.heap.size by omega)
                          exact ⟨hq, (k0 _).trans b0, (k1 _).trans p1, (k2 _).trans s1, (k2 _).trans s2, (k3 _).trans x2, (k3 _).trans x3, (k3 _).trans x4, (k3 _).trans x5, (k3 _).trans x6, (k3 _).trans x7, (k3 _).trans x8, (k3 _).trans x9, (k3 _).trans x10, (k3 _).trans x11, (k3 _).trans x12, (k3 _).trans x13, (k3 _).trans x14, (k3 _).trans x15, (k3 _).trans y2, (k3 _).trans y3, (k3 _).trans y4, (k3 _).trans y5, (k3 _).trans y6, (k3 _).trans y7, (k3 _).trans y8, (k3 _).trans y9, (k3 _).trans y10, (k3 _).trans y11, (k3 _).trans y12, (k3 _).trans y13, (k3 _).trans y14, (k3 _).trans y15⟩
                        have hS := hmk wr (Below.refl _ _)
                        have HMK := Lib.hid hmk
                        clear hmk x2 x3 x4 x5 x6 x7 x8 x9 x10 x11 x12 x13 x14 x15 y2 y3 y4 y5 y6 y7 y8 y9 y10 y11 y12 y13 y14 y15 s1 s2 b0 p1
                        have i1 : (j : Int) < (x.2.length : Int) := by omega
                        have i2 : (j : Int) + 1 < (x.2.length : Int) := by omega
                        have i3 : (j : Int) < (x.2.length : Int) - 1 := by omega
                        have i4 : (r1 : Int) < (R.length : Int) := by omega
                        have i5 : (r2 : Int) < (R.length : Int) := by omega
                        go_upto_region 31 with (fail)
                        have i6 : (0 : Int) ≤ (j : Int) + 1 := by omega
                        have i7 := IntWalk.i64_in ((j : Int) + 1) (by omega)
                        have i8 : ((j : Int) + 1).toNat = j + 1 := by omega
                        go_region_held3 (fun w' => Below wr.heap.size wr w' ∧ w'.cell? ⟨w.heap.size, 0, none⟩ = some (.slice (some ⟨bR, oR, none⟩) R.length d) ∧ w'.cell? ⟨wo.heap.size, 1, none⟩ = some (.slice (some ⟨bs', os', none⟩) x.2.length c') ∧ w'.cell? ⟨bs', os' + j * 4, none⟩ = some (.int .i64 (r1 : Int)) ∧ w'.cell? ⟨bs', os' + (j + 1) * 4, none⟩ = some (.int .i64 (r2 : Int)) ∧ w'.cell? ⟨bR, oR + r1 * 14, none⟩ = some (.string ra.nm) ∧ w'.cell? ⟨bR, oR + r1 * 14 + 1, none⟩ = some (.int .i64 ra.entry) ∧ w'.cell? ⟨bR, oR + r1 * 14 + 2, none⟩ = some (.int .i64 ra.exit) ∧ w'.cell? ⟨bR, oR + r1 * 14 + 3, none⟩ = some (.slice ra.s3.1 ra.s3.2.1 ra.s3.2.2) ∧ w'.cell? ⟨bR, oR + r1 * 14 + 4, none⟩ = some (.slice ra.s4.1 ra.s4.2.1 ra.s4.2.2) ∧ w'.cell? ⟨bR, oR + r1 * 14 + 5, none⟩ = some (.slice ra.s5.1 ra.s5.2.1 ra.s5.2.2) ∧ w'.cell? ⟨bR, oR + r1 * 14 + 6, none⟩ = some (.int .i64 ra.appr) ∧ w'.cell? ⟨bR, oR + r1 * 14 + 7, none⟩ = some (.int .i64 ra.len) ∧ w'.cell? ⟨bR, oR + r1 * 14 + 8, none⟩ = some (.slice ra.s8.1 ra.s8.2.1 ra.s8.2.2) ∧ w'.cell? ⟨bR, oR + r1 * 14 + 9, none⟩ = some (.slice ra.s9.1 ra.s9.2.1 ra.s9.2.2) ∧ w'.cell? ⟨bR, oR + r1 * 14 + 10, none⟩ = some (.slice ra.s10.1 ra.s10.2.1 ra.s10.2.2) ∧ w'.cell? ⟨bR, oR + r1 * 14 + 11, none⟩ = some (.slice ra.s11.1 ra.s11.2.1 ra.s11.2.2) ∧ w'.cell? ⟨bR, oR + r1 * 14 + 12, none⟩ = some (.slice ra.s12.1 ra.s12.2.1 ra.s12.2.2) ∧ w'.cell? ⟨bR, oR + r1 * 14 + 13, none⟩ = some (.slice ra.s13.1 ra.s13.2.1 ra.s13.2.2) ∧ w'.cell? ⟨bR, oR + r2 * 14, none⟩ = some (.string rb.nm) ∧ w'.cell? ⟨bR, oR + r2 * 14 + 1, none⟩ = some (.int .i64 rb.entry) ∧ w'.cell? ⟨bR, oR + r2 * 14 + 2, none⟩ = some (.int .i64 rb.exit) ∧ w'.cell? ⟨bR, oR + r2 * 14 + 3, none⟩ = some (.slice rb.s3.1 rb.s3.2.1 rb.s3.2.2) ∧ w'.cell? ⟨bR, oR + r2 * 14 + 4, none⟩ = some (.slice rb.s4.1 rb.s4.2.1 rb.s4.2.2) ∧ w'.cell? ⟨bR, oR + r2 * 14 + 5, none⟩ = some (.slice rb.s5.1 rb.s5.2.1 rb.s5.2.2) ∧ w'.cell? ⟨bR, oR + r2 * 14 + 6, none⟩ = some (.int .i64 rb.appr) ∧ w'.cell? ⟨bR, oR + r2 * 14 + 7, none⟩ = some (.int .i64 rb.len) ∧ w'.cell? ⟨bR, oR + r2 * 14 + 8, none⟩ = some (.slice rb.s8.1 rb.s8.2.1 rb.s8.2.2) ∧ w'.cell? ⟨bR, oR + r2 * 14 + 9, none⟩ = some (.slice rb.s9.1 rb.s9.2.1 rb.s9.2.2) ∧ w'.cell? ⟨bR, oR + r2 * 14 + 10, none⟩ = some (.slice rb.s10.1 rb.s10.2.1 rb.s10.2.2) ∧ w'.cell? ⟨bR, oR + r2 * 14 + 11, none⟩ = some (.slice rb.s11.1 rb.s11.2.1 rb.s11.2.2) ∧ w'.cell? ⟨bR, oR + r2 * 14 + 12, none⟩ = some (.slice rb.s12.1 rb.s12.2.1 rb.s12.2.2) ∧ w'.cell? ⟨bR, oR + r2 * 14 + 13, none⟩ = some (.slice rb.s13.1 rb.s13.2.1 rb.s13.2.2))
                          (first | assumption | (refine HMK.out _ ?_; have hbq := (by assumption : Below wr.heap.size wr _ ∧ _).1; (repeat' (first | (with_reducible exact Below.refl _ _) | (with_reducible assumption) | (with_reducible refine Below.drewN ?_ _) | (with_reducible refine Below.drew ?_) | (with_reducible refine Below.alloc ?_ ?_ _) | (with_reducible refine Below.setCell ?_ ?_ _) | (with_reducible exact Nat.le_refl _) | (with_reducible exact Below.size (by assumption)) | omega | (simp only [World.size_alloc, World.size_setCell, World.size_drew]; omega) | (simp; done) | (simp; omega)))))
                          (fail)
                        all_goals
                          clear i7 i8
                          have hbq := (by assumption : Below wr.heap.size wr _ ∧ _).1
                          have hzq := hbq.size
                          go_wp2_with fail
                          refine (follows_any ra rb _).mono ?_
                          cases hf : folR ra rb
                          · rintro e w5 ⟨rfl, hb⟩
                            have HX := Lib.hid (HG.out hf)
                            go_wp2_with fail
                            go_ret
                            exact ⟨by rw [HX.out]; rfl, (hJ.step (bel_then (by (repeat' (first | (with_reducible exact Below.refl _ _) | (with_reducible assumption) | (with_reducible refine Below.drewN ?_ _) | (with_reducible refine Below.drew ?_) | (with_reducible refine Below.alloc ?_ ?_ _) | (with_reducible refine Below.setCell ?_ ?_ _) | (with_reducible exact Nat.le_refl _) | (with_reducible exact Below.size (by assumption)) | omega | (simp only [World.size_alloc, World.size_setCell, World.size_drew]; omega) | (simp; done) | (simp; omega)))) (by simp <;> omega) hb)).below⟩
                          · rintro e w5 ⟨rfl, hb⟩
                            have HX := Lib.hid hf
                            clear hf
                            go_wp2_with fail
                            go_roundw
                            case rel =>
                              have hb5 : Below wr.heap.size wr w5 := bel_then (by (repeat' (first | (with_reducible exact Below.refl _ _) | (with_reducible assumption) | (with_reducible refine Below.drewN ?_ _) | (with_reducible refine Below.drew ?_) | (with_reducible refine Below.alloc ?_ ?_ _) | (with_reducible refine Below.setCell ?_ ?_ _) | (with_reducible exact Nat.le_refl _) | (with_reducible exact Below.size (by assumption)) | omega | (simp only [World.size_alloc, World.size_setCell, World.size_drew]; omega) | (simp; done) | (simp; omega)))) (by simp <;> omega) hb
                              exact ⟨j + 1, by omega, by go_num, by rw [HF.out, HA.out, HX.out]; rfl, hP.now hb5, hJ.step hb5⟩
                            case measure => simp [intOf] <;> omega
                      · have he : j = x.2.length - 1 := by omega
                        have HG := Lib.hid (show (fun p : Trp => adjB (folB R) p.2 (p.2.length - 1)) x = true by
                          show adjB (folB R) x.2 (x.2.length - 1) = true
                          rw [← he]; exact HA.out)
                        have i3 : ¬ (j : Int) < (x.2.length : Int) - 1 := by omega
                        clear he
                        go_wp2_with fail
                        go_roundw
                        case rel => exact ⟨n + 1, by omega, by go_num, by rw [HS.out, HK.out]; exact HG.out, hJ⟩
                        case measure => simp [intOf] <;> omega
                  · have H4 := Lib.hid (all_end hlt HK.out)
                    clear HK hk
                    go_wp2_with fail
                    clear hlt
                    go_loopw [116] (fun i wr => ∃ k : Nat, k ≤ l.length ∧ i = .int .i64 k ∧ (l.take k).all (fun p => adjB ordB p.2 (p.2.length - 1)) = true ∧ ChkI w w.heap.size 25 #[.slice B R.length d, .slice y.1 y.2.1 y.2.2, .slice z.1 z.2.1 z.2.2, .int .i64 s, .int .i64 g] wr) (fun i _ => (l.length - intOf i).toNat)
                    case atStart => exact ⟨0, by omega, rfl, rfl, hI⟩
                    case round =>
                      clear hI
                      obtain ⟨n, hk, rfl, htk, hI⟩ := hrel
                      have HK := Lib.hid htk
                      clear htk
                      have hz0 := hI.box.lt
                      obtain ⟨wo, rfl⟩ : ∃ wo : World, wo = wr := ⟨_, rfl⟩
                      by_cases hlt : n < l.length
                      · obtain ⟨b, off, A', c', rfl, hb1, h1, h2, h3, x0, x1⟩ := trp_at (hA.below hI.below) hlt
                        have HS := Lib.hid (all_take (fun p : Trp => adjB ordB p.2 (p.2.length - 1)) hlt)
                        have HD := Lib.hid (fun h => chk_ord (R := R) HN.out H1.out H2.out H3.out H4.out (all_no (p := fun p : Trp => adjB ordB p.2 (p.2.length - 1)) hlt h))
                        have hL1 : 1 ≤ l[n].2.length ∧ l[n].2.length ≤ 4 := by
                          have := all_at H1.out hlt
                          simpa [lenB] using this
                        clear hA hR
                        generalize l[n] = x at h1 h2 h3 x0 x1 HS HD hL1
                        obtain ⟨hL1, hL2⟩ := hL1
                        have hn : (n : Int) < (l.length : Int) := by omega
                        go_wp2_with fail
                        go_loopw [124] (fun i wr => ∃ k : Nat, k ≤ x.2.length - 1 ∧ i = .int .i64 k ∧ adjB ordB x.2 k = true ∧ Blk wr wo.heap.size 50 #[.int .i64 x.1, .slice A' x.2.length c'] ∧ ChkI w w.heap.size 25 #[.slice B R.length d, .slice y.1 y.2.1 y.2.2, .slice z.1 z.2.1 z.2.2, .int .i64 s, .int .i64 g] wr) (fun i _ => (x.2.length - intOf i).toNat)
                        case atStart => exact ⟨0, by omega, rfl, rfl, Blk.new _ _ _ _ rfl, hI.step (by (repeat' (first | (with_reducible exact Below.refl _ _) | (with_reducible assumption) | (with_reducible refine Below.drewN ?_ _) | (with_reducible refine Below.drew ?_) | (with_reducible refine Below.alloc ?_ ?_ _) | (with_reducible refine Below.setCell ?_ ?_ _) | (with_reducible exact Nat.le_refl _) | (with_reducible exact Below.size (by assumption)) | omega | (simp only [World.size_alloc, World.size_setCell, World.size_drew]; omega) | (simp; done) | (simp; omega))))⟩
                        case round =>
                          obtain ⟨j, hj, rfl, hta, hP, hJ⟩ := hrel
                          have HA := Lib.hid hta
                          clear hta
                          have hz1 := hP.lt
                          by_cases hlj : j < x.2.length - 1
                          · have hj1 : j < x.2.length := by omega
                            have hj2 : j + 1 < x.2.length := by omega
                            have g3 : RdS cStp wr w.heap.size A' x.2 := h3.keep fun p hp => (hJ.below.cell hp).trans (hI.below.cell hp).symm
                            obtain ⟨bs', os', rfl, hb2, _, _, s1, _, _⟩ := stp_at g3 hj1
                            obtain ⟨_, _, e, _, _, _, s2, _, _⟩ := stp_at g3 hj2
                            cases e
                            have HF := Lib.hid (show adjB ordB x.2 (j + 1) = (adjB ordB x.2 j && ordB x.2[j] x.2[j + 1]) by
                              rw [adjB_succ]; simp [hj1, hj2])
                            have HG := Lib.hid (fun h : ordB x.2[j] x.2[j + 1] = false => HD.out (adjB_false (f := ordB) (l := x.2) hlj (by simpa [hj1, hj2] using h)))
                            clear g3 h3 x0 x1
                            generalize x.2[j] = sa at s1 HF HG
                            generalize x.2[j + 1] = sb at s2 HF HG
                            obtain ⟨a0, a1, a2, a3⟩ := sa
                            obtain ⟨c0, c1, c2, c3⟩ := sb
                            have p1 := hP.cell 1
                            simp only [List.getElem?_toArray, List.getElem?_cons_succ, List.getElem?_cons_zero] at p1
                            have i1 : (j : Int) < (x.2.length : Int) := by omega
                            have i2 : (j : Int) + 1 < (x.2.length : Int) := by omega
                            have i3 : (j : Int) < (x.2.length : Int) - 1 := by omega
                            by_cases ho : a1 < c1
                            · have d1 : decide (c1 ≤ a1) = false := by simp; omega
                              have HX := Lib.hid (show ordB (a0, a1, a2, a3) (c0, c1, c2, c3) = true by simp [ordB]; omega)
                              go_upto_region 42 with (fail)
                              have i6 : (0 : Int) ≤ (j : Int) + 1 := by omega
                              have i7 := IntWalk.i64_in ((j : Int) + 1) (by omega)
                              have i8 : ((j : Int) + 1).toNat = j + 1 := by omega
                              (refine wp_region_quiet_lit (by kernel_rfl) (by kernel_rfl) ?_; (repeat (any_goals (first | go_big_quiet_step (fail) | quiet_step (fail) | (refine wpQuiet_step (fun K hK => ?_); go_simp; split <;> (refine hK _ ?_; clear hK K))))); all_goals (refine wpQuiet_nil ?_; intro _ hw'; obtain ⟨nq, hw''⟩ := hw'; subst hw''))
                              clear i7 i8
                              go_wp2_with fail
                              go_roundw
                              case rel => exact ⟨j + 1, by omega, by go_num, by rw [HF.out, HA.out, HX.out]; rfl, by (repeat' (first | (with_reducible assumption) | (with_reducible refine Blk.new _ _ _ _ ?_) | (with_reducible refine Blk.drewN ?_ _) | (with_reducible refine Blk.drew ?_) | (with_reducible refine Blk.alloc ?_ _) | (with_reducible refine Blk.far ?_ ?_ _) | rfl | omega | (simp; done) | (simp; omega))), hJ.step (by (repeat' (first | (with_reducible exact Below.refl _ _) | (with_reducible assumption) | (with_reducible refine Below.drewN ?_ _) | (with_reducible refine Below.drew ?_) | (with_reducible refine Below.alloc ?_ ?_ _) | (with_reducible refine Below.setCell ?_ ?_ _) | (with_reducible exact Nat.le_refl _) | (with_reducible exact Below.size (by assumption)) | omega | (simp only [World.size_alloc, World.size_setCell, World.size_drew]; omega) | (simp; done) | (simp; omega))))⟩
                              case measure => simp [intOf] <;> omega
                            · have d1 : decide (c1 ≤ a1) = true := by simp; omega
                              have HX := Lib.hid (HG.out (show ordB (a0, a1, a2, a3) (c0, c1, c2, c3) = false by simp [ordB]; omega))
                              go_upto_region 42 with (fail)
                              have i6 : (0 : Int) ≤ (j : Int) + 1 := by omega
                              have i7 := IntWalk.i64_in ((j : Int) + 1) (by omega)
                              have i8 : ((j : Int) + 1).toNat = j + 1 := by omega
                              (refine wp_region_quiet_lit (by kernel_rfl) (by kernel_rfl) ?_; (repeat (any_goals (first | go_big_quiet_step (fail) | quiet_step (fail) | (refine wpQuiet_step (fun K hK => ?_); go_simp; split <;> (refine hK _ ?_; clear hK K))))); all_goals (refine wpQuiet_nil ?_; intro _ hw'; obtain ⟨nq, hw''⟩ := hw'; subst hw''))
                              clear i7 i8
                              go_wp2_with fail
                              go_ret
                              exact ⟨by rw [HX.out]; rfl, (hJ.step (by (repeat' (first | (with_reducible exact Below.refl _ _) | (with_reducible assumption) | (with_reducible refine Below.drewN ?_ _) | (with_reducible refine Below.drew ?_) | (with_reducible refine Below.alloc ?_ ?_ _) | (with_reducible refine Below.setCell ?_ ?_ _) | (with_reducible exact Nat.le_refl _) | (with_reducible exact Below.size (by assumption)) | omega | (simp only [World.size_alloc, World.size_setCell, World.size_drew]; omega) | (simp; done) | (simp; omega))))).below⟩
                          · have he : j = x.2.length - 1 := by omega
                            have HG := Lib.hid (show (fun p : Trp => adjB ordB p.2 (p.2.length - 1)) x = true by
                              show adjB ordB x.2 (x.2.length - 1) = true
                              rw [← he]; exact HA.out)
                            have i3 : ¬ (j : Int) < (x.2.length : Int) - 1 := by omega
                            clear he
                            go_wp2_with fail
                            go_roundw
                            case rel => exact ⟨n + 1, by omega, by go_num, by rw [HS.out, HK.out]; exact HG.out, hJ⟩
                            case measure => simp [intOf] <;> omega
                      · have H5 := Lib.hid (chk_ok (R := R) HN.out H1.out H2.out H3.out H4.out (all_end hlt HK.out))
                        clear HK hk
                        go_wp2_with fail
                        go_ret
                        exact ⟨by rw [H5.out]; rfl, hI.below⟩
end Go.Proofs.Ytaedelcbioiogaa
