/- The walks of the reference's Check's parts: agree, Index, Find, sections. -/
import Derived.Test.YtlblfblkallnhaaGreatDoorTbChkE
namespace Go.Proofs.YtlblfblkallnhaaGreatDoor
set_option linter.unusedVariables false
set_option linter.unusedSimpArgs false
open Go.RowKit
attribute [local go_sem] bs_size bs_get bs_append bs_extract bs_toList
attribute [-go_sem] run_equalIn_agg
set_option maxRecDepth 100000 in
set_option maxHeartbeats 8000000 in
theorem rAgree_any (a b : List Stg) (A B : Option Addr) (ca cb : Nat) (w : World) (ha : RdS cStg w (Lt w) A a) (hb : RdS cStg w (Lt w) B b) (la : a.length ≤ maxLen) (lb : b.length ≤ maxLen) :
    Calls Tryz.prog 54 #[.slice A a.length ca, .slice B b.length cb] w fun e w' => e = .returned (.bool (agrB a b)) ∧ Below w.heap.size w w' := by
  unfold maxLen at la lb
  go_enter Tryz.func54, Tryz.ntmps54
  go_wp2_with fail
  go_loopw [11] (fun n wr => ∃ k : Nat, k ≤ a.length ∧ n = .int .i64 k ∧ Below w.heap.size w wr ∧ Hid ((a.take k).all (fun x => b.all fun y => !(decide (x.el = y.el) && decide (x.pos ≠ y.pos))) = true)) (fun n _ => a.length - (intOf n).toNat)
  case atStart => exact ⟨0, Nat.zero_le _, rfl, Below.refl _ _, Lib.hid (by simp)⟩
  case round =>
    obtain ⟨k, hk, rfl, hbel, HK⟩ := hrel
    by_cases hlt : k < a.length
    · have hki : (k : Int) < (a.length : Int) := by omega
      obtain ⟨p1, o1, rfl, l1, -, y0, y1⟩ := (ha.now hbel).elG hlt
      have hba := hbel.alloc hbel.size (.cells #[.int .i64 a[k].el, .int .i64 a[k].pos] 99)
      have hx6 : Blk (wr.alloc (.cells #[.int .i64 a[k].el, .int .i64 a[k].pos] 99)) wr.heap.size 99 #[.int .i64 a[k].el, .int .i64 a[k].pos] := Blk.new _ _ _ _ rfl
      have HST := Lib.hid fun h2 => agr_step (a := a) (b := b) hlt HK.out h2
      have HNO := Lib.hid fun (j : Nat) (hj : j < b.length) => agr_no (a := a) (b := b) hlt hj
      clear HK ha
      generalize a[k] = p at *
      go_wp2_with fail
      generalize hw1 : wr.alloc (.cells #[.int .i64 p.el, .int .i64 p.pos] 99) = w1 at *
      generalize hg1 : wr.heap.size = g1 at *
      clear hw1 hbel y0 y1 l1
      go_loopw [17] (fun n wr => ∃ j : Nat, j ≤ b.length ∧ n = .int .i64 j ∧ Below w.heap.size w wr ∧ Blk wr g1 99 #[.int .i64 p.el, .int .i64 p.pos] ∧ Hid (((b.take j).all fun y => !(decide (p.el = y.el) && decide (p.pos ≠ y.pos))) = true)) (fun n _ => b.length - (intOf n).toNat)
      case atStart => exact ⟨0, Nat.zero_le _, rfl, hba, hx6, Lib.hid (by simp)⟩
      case round =>
        clear hba hx6
        obtain ⟨j, hj, rfl, hbel, hx, HJ⟩ := hrel
        by_cases hltj : j < b.length
        · have hji : (j : Int) < (b.length : Int) := by omega
          obtain ⟨p2, o2, rfl, l2, -, z0, z1⟩ := (hb.now hbel).elG hltj
          have hba2 := hbel.alloc hbel.size (.cells #[.int .i64 b[j].el, .int .i64 b[j].pos] 99)
          have hxa := hx.alloc (.cells #[.int .i64 b[j].el, .int .i64 b[j].pos] 99)
          have u0 := hxa.cell 0
          have u1 := hxa.cell 1
          simp only [List.getElem?_toArray, List.getElem?_cons_zero, List.getElem?_cons_succ] at u0 u1
          have HIN := Lib.hid fun h2 => agr_in (x := p) hltj HJ.out h2
          have HN2 := Lib.hid (HNO.out j hltj)
          by_cases he : p.el = b[j].el
          · by_cases hp : p.pos = b[j].pos
            · have HR := Lib.hid (HIN.out fun h => h.2 hp)
              have t1 : (p.el == b[j].el) = true := by simp [he]
              have t2 : (p.pos != b[j].pos) = false := by simp [hp]
              clear HIN HN2 HJ he hp
              generalize b[j] = q at *
              go_wp2_with fail
              go_roundw
              case rel => exact ⟨j + 1, by omega, by go_num, hba2, hxa, HR⟩
              case measure => simp [intOf]; omega
            · have HR := Lib.hid (HN2.out he hp)
              have t1 : (p.el == b[j].el) = true := by simp [he]
              have t2 : (p.pos != b[j].pos) = true := by simp [hp]
              clear HIN HN2 HJ he hp
              generalize b[j] = q at *
              go_wp2_with fail
              go_ret
              exact ⟨ret_b HR.out.symm, hba2⟩
          · have HR := Lib.hid (HIN.out fun h => he h.1)
            have t1 : (p.el == b[j].el) = false := by simp [he]
            clear HIN HN2 HJ he
            generalize b[j] = q at *
            go_wp2_with fail
            go_roundw
            case rel => exact ⟨j + 1, by omega, by go_num, hba2, hxa, HR⟩
            case measure => simp [intOf]; omega
        · have HR := Lib.hid (HST.out (all_end2 hltj HJ.out))
          go_wp2_with fail
          go_roundw
          case rel => exact ⟨k + 1, by omega, by go_num, hbel, HR⟩
          case measure => simp [intOf]; omega
    · have HR : Hid (agrB a b = true) := Lib.hid (all_end2 hlt HK.out)
      go_wp2_with fail
      go_ret
      exact ⟨ret_b HR.out.symm, hbel⟩

set_option maxRecDepth 100000 in
set_option maxHeartbeats 4000000 in
theorem rIndex_any (v : TabV) (x : Int) (w : World) (hr : TvR w v) : Calls Tryz.prog 83 #[tvA v, .int .i64 x] w fun e w' => (∃ n : Int, e = .returned (.int .i64 n) ∧ (n < 0 ↔ x ∉ v.t.pts)) ∧ Below w.heap.size w w' := by
  have hb0 := Bx.new hr
  have x1 := hb0.x1
  have hl := hr.n2.1
  unfold maxLen at hl
  unfold tvA
  go_enter Tryz.func83, Tryz.ntmps83
  go_wp2_with fail
  have hB := hb0.bel
  have hR := hb0.rd.r2
  clear x1 hb0 hr
  generalize w.alloc (.cells #[.slice v.A1 v.t.rts.length v.c1, .slice v.A2 v.t.pts.length v.c2, .slice v.A3 v.t.homes.length v.c3, .int .i64 v.t.nsec, .int .i64 v.t.nsig] 25) = W9 at *
  go_loop [10] (fun i => ∃ k : Nat, k ≤ v.t.pts.length ∧ i = .int .i64 k ∧ Hid (x ∉ v.t.pts.take k)) (fun i => v.t.pts.length - (intOf i).toNat)
  case atStart => exact ⟨0, Nat.zero_le _, rfl, Lib.hid (by simp)⟩
  case round =>
    obtain ⟨k, hk, rfl, HK⟩ := hrel
    by_cases hlt : k < v.t.pts.length
    · have hki : (k : Int) < (v.t.pts.length : Int) := by omega
      obtain ⟨b, off, hA, lb, ho, y0⟩ := hR.elI hlt
      rw [hA]
      by_cases hx : v.t.pts[k] = x
      · have HE : Hid (x ∈ v.t.pts) := Lib.hid (hx ▸ List.getElem_mem hlt)
        have hxb : (v.t.pts[k] == x) = true := by simp [hx]
        clear hx hR ho hA HK
        generalize v.t.pts[k] = q at *
        go_wp2_with fail
        go_ret
        exact ⟨⟨(k : Int), rfl, ⟨fun h => by omega, fun h => absurd HE.out h⟩⟩, hB⟩
      · have HN := Lib.hid (take_noI hlt HK.out hx)
        have hxb : (v.t.pts[k] == x) = false := by rw [beq_eq_false_iff_ne]; exact hx
        clear hx hR ho hA HK
        generalize v.t.pts[k] = q at *
        go_wp2_with fail
        go_round
        case rel => exact ⟨k + 1, by omega, by go_num, HN⟩
        case measure => simp [intOf]; omega
    · have HE : Hid (x ∉ v.t.pts) := Lib.hid (by
        have h1 := HK.out
        rwa [List.take_of_length_le (by omega)] at h1)
      go_wp2_with fail
      go_ret
      exact ⟨⟨-1, rfl, ⟨fun _ => HE.out, fun _ => by omega⟩⟩, hB⟩
theorem take_nodup {α : Type} {l : List α} {k : Nat} (hk : k < l.length) (h : (l.take k).Nodup) (h2 : l[k] ∉ l.take k) : (l.take (k + 1)).Nodup := by
  rw [List.take_succ_eq_append_getElem hk, List.nodup_append]
  refine ⟨h, by simp, ?_⟩
  intro a ha b hb e
  rw [List.mem_singleton] at hb
  exact h2 (by rw [← hb, ← e]; exact ha)
theorem nameAt {l : List Rou} {k : Nat} (hk : k < l.length) : (l.map Rou.name)[k]'(by simpa using hk) = l[k].name := by simp
theorem fst_here {l : List Rou} {k : Nat} {x : List UInt8} (hk : k < l.length) (h : x ∉ (l.map Rou.name).take k) (hx : l[k].name = x) : fstI (l.map Rou.name) x = (k : Int) := by
  have h1 := fstI_at (l := l.map Rou.name) (k := k) (by simpa using hk) (by rw [nameAt hk, hx]; exact h)
  rw [nameAt hk, hx] at h1
  exact h1
theorem fst_none {l : List (List UInt8)} {x : List UInt8} (h : x ∉ l) : fstI l x = -1 := by
  have h1 := fstI_neg.2 h
  have h2 := fstI_ge l x
  omega
set_option maxRecDepth 100000 in
set_option maxHeartbeats 4000000 in
theorem rFind_any (v : TabV) (x : List UInt8) (w : World) (hr : TvR w v) : Calls Tryz.prog 55 #[tvA v, .string (bs x)] w fun e w' => e = .returned (.int .i64 (fstI (v.t.rts.map Rou.name) x)) ∧ Below w.heap.size w w' := by
  have hb0 := Bx.new hr
  have x0 := hb0.x0
  have hl := hr.n1
  unfold maxLen at hl
  unfold tvA
  go_enter Tryz.func55, Tryz.ntmps55
  go_wp2_with fail
  clear x0
  go_loopw [10] (fun i wr => ∃ k : Nat, k ≤ v.t.rts.length ∧ i = .int .i64 k ∧ Bx w wr v ∧ Hid (x ∉ (v.t.rts.map Rou.name).take k)) (fun i _ => v.t.rts.length - (intOf i).toNat)
  case atStart => exact ⟨0, Nat.zero_le _, rfl, hb0, Lib.hid (by simp)⟩
  case round =>
    clear hb0
    obtain ⟨k, hk, rfl, hb, HK⟩ := hrel
    by_cases hlt : k < v.t.rts.length
    · have hki : (k : Int) < (v.t.rts.length : Int) := by omega
      obtain ⟨b, off, r, hA, lb, hre, hrv, y0, y1, y2, y3, y4, y5, y6, y7, y8, y9, y10, y11, y12, y13⟩ := hb.rd.r1.elR hlt
      have hre' : v.t.rts[k] = r.r := hre.symm
      have hb2 := hb.alloc (.cells #[.string (bs r.r.name), .int .i64 r.r.ent, .int .i64 r.r.ext, .slice r.A1 r.r.path.length r.c1, .slice r.A2 r.r.pts.length r.c2, .slice r.A3 r.r.secs.length r.c3, .int .i64 r.r.app, .int .i64 r.r.len, .slice r.A4 r.r.over.length r.c4, .slice r.A5 r.r.opts.length r.c5, .slice r.A6 r.r.osecs.length r.c6, .slice r.A7 r.r.flk.length r.c7, .slice r.A8 r.r.grd.length r.c8, .slice r.A9 r.r.gap.length r.c9] 41)
      have hbb := hb2.bel
      rw [hA]
      clear hA hb hrv hre
      by_cases hx : r.r.name = x
      · have HX := Lib.hid (fst_here hlt HK.out (by rw [hre']; exact hx))
        have hxb : (r.r.name == x) = true := by simp [hx]
        clear hx hre' HK hb2
        go_wp2_with fail
        go_ret
        exact ⟨ret_iL HX.out.symm, hbb⟩
      · have HN := Lib.hid (show x ∉ (v.t.rts.map Rou.name).take (k + 1) from take_noI (l := v.t.rts.map Rou.name) (by simpa using hlt) HK.out (by rw [nameAt hlt, hre']; exact hx))
        have hxb : (r.r.name == x) = false := by rw [beq_eq_false_iff_ne]; exact hx
        clear hx hre' HK
        have HB2 := Lib.hid hb2
        clear hb2
        go_wp2_with fail
        go_roundw
        case rel => exact ⟨k + 1, by omega, by go_num, HB2.out, HN⟩
        case measure => simp [intOf]; omega
    · have HX := Lib.hid (fst_none (l := v.t.rts.map Rou.name) (x := x) (by
        have h1 := HK.out
        rwa [List.take_of_length_le (by simp; omega)] at h1))
      have hbb := hb.bel
      go_wp2_with fail
      go_ret
      exact ⟨ret_iL HX.out.symm, hbb⟩

set_option maxRecDepth 100000 in
set_option maxHeartbeats 8000000 in
theorem rSections_any (v : TabV) (l : List Int) (A : Option Addr) (cap : Nat) (w : World) (hr : TvR w v) (ha : RdS cI w (Lt w) A l) (hl : l.length ≤ maxLen) :
    Calls Tryz.prog 82 #[tvA v, .slice A l.length cap] w fun e w' => e = .returned (.bool (sscB v.t l)) ∧ Below w.heap.size w w' := by
  have hb0 := Bx.new hr
  have hR := ha.now (Below.refl w.heap.size w |>.alloc (Nat.le_refl _) (.cells #[.slice v.A1 v.t.rts.length v.c1, .slice v.A2 v.t.pts.length v.c2, .slice v.A3 v.t.homes.length v.c3, .int .i64 v.t.nsec, .int .i64 v.t.nsig] 25))
  have hB := hb0.bel
  unfold maxLen at hl
  have x3 := hb0.x3
  unfold tvA
  clear hb0 hr ha
  go_enter Tryz.func82, Tryz.ntmps82
  go_wp2_with fail
  generalize w.alloc (.cells #[.slice v.A1 v.t.rts.length v.c1, .slice v.A2 v.t.pts.length v.c2, .slice v.A3 v.t.homes.length v.c3, .int .i64 v.t.nsec, .int .i64 v.t.nsig] 25) = W9 at *
  go_loop [10] (fun i => ∃ k : Nat, k ≤ l.length ∧ i = .int .i64 k ∧ Hid (SscI v.t l k)) (fun i => l.length - (intOf i).toNat)
  case atStart => exact ⟨0, Nat.zero_le _, rfl, Lib.hid ⟨by simp, by simp⟩⟩
  case round =>
    obtain ⟨k, hk, rfl, HK⟩ := hrel
    by_cases hlt : k < l.length
    · have hki : (k : Int) < (l.length : Int) := by omega
      obtain ⟨b, off, rfl, lb, ho, y0⟩ := hR.elI hlt
      have HNO := Lib.hid (ssc_no1 (t := v.t) hlt)
      have HN2 := Lib.hid (ssc_no2 (t := v.t) hlt)
      have HST := Lib.hid fun (h1 : inB l[k] 0 (v.t.nsec - 1) = true) (h2 : l[k] ∉ l.take k) => (show SscI v.t l (k + 1) from ⟨all_take2 hlt HK.out.1 h1, take_nodup hlt HK.out.2 h2⟩)
      have HAT := Lib.hid fun (j : Nat) (hj : j < k) => hR.elI (show j < l.length by omega)
      have HQ := Lib.hid (rfl : l[k] = l[k])
      obtain ⟨q, hq⟩ : ∃ q, q = l[k] := ⟨_, rfl⟩
      rw [← hq] at y0 HNO HN2 HST HQ
      clear hq
      by_cases c1 : q < 0
      · have HX := Lib.hid (HNO.out (by unfold inB; rw [decide_eq_false (by omega)]; rfl))
        clear HNO HN2 HST HAT HQ HK
        go_wp2_with fail
        go_ret
        exact ⟨ret_b HX.out.symm, hB⟩
      by_cases c2 : v.t.nsec ≤ q
      · have HX := Lib.hid (HNO.out (by unfold inB; rw [decide_eq_false (show ¬ q ≤ v.t.nsec - 1 by omega), Bool.and_false]))
        clear HNO HN2 HST HAT HQ HK
        go_wp2_with fail
        go_ret
        exact ⟨ret_b HX.out.symm, hB⟩
      have HIN : Hid (inB q 0 (v.t.nsec - 1) = true) := Lib.hid (inB_iff.2 ⟨by omega, by omega⟩)
      clear HNO HK
      go_wp2_with fail
      go_loop [24] (fun i => ∃ j : Nat, j ≤ k ∧ i = .int .i64 j ∧ Hid (q ∉ l.take j)) (fun i => k - (intOf i).toNat)
      case atStart => exact ⟨0, Nat.zero_le _, rfl, Lib.hid (by simp)⟩
      case round =>
        obtain ⟨j, hj, rfl, HJ⟩ := hrel
        by_cases hltj : j < k
        · have hji : (j : Int) < (k : Int) := by omega
          have hjl : (j : Int) < (l.length : Int) := by omega
          have hjn : j < l.length := by omega
          obtain ⟨b2, off2, hA2, _, ho2, z0⟩ := HAT.out j hltj
          obtain ⟨rfl, rfl⟩ : b = b2 ∧ off = off2 := by simp only [Option.some.injEq, Addr.mk.injEq] at hA2; exact ⟨hA2.1, hA2.2.1⟩
          clear hA2 ho2
          by_cases hx : l[j] = q
          · have HX := Lib.hid (HN2.out (by rw [← hx]; exact List.mem_take_iff_getElem.2 ⟨j, by omega, rfl⟩))
            have hxb : (l[j] == q) = true := by simp [hx]
            clear hx HN2 HST HAT HQ HJ hR ho
            generalize l[j] = p at *
            go_wp2_with fail
            go_ret
            exact ⟨ret_b HX.out.symm, hB⟩
          · have HN := Lib.hid (take_noI hjn HJ.out hx)
            have hxb : (l[j] == q) = false := by rw [beq_eq_false_iff_ne]; exact hx
            clear hx HN2 HST HAT HQ HJ hR ho
            generalize l[j] = p at *
            go_wp2_with fail
            go_round
            case rel => exact ⟨j + 1, by omega, by go_num, HN⟩
            case measure => simp [intOf]; omega
        · have HX := Lib.hid (HST.out HIN.out (by have h1 := HJ.out; rwa [show j = k by omega] at h1))
          clear HN2 HST HAT HQ HJ
          go_wp2_with fail
          go_round
          case rel => exact ⟨k + 1, by omega, by go_num, HX⟩
          case measure => simp [intOf]; omega
    · have HX : Hid (sscB v.t l = true) := Lib.hid (ssc_end hlt HK.out.1 HK.out.2)
      clear HK hR
      go_wp2_with fail
      go_ret
      exact ⟨ret_b HX.out.symm, hB⟩
end Go.Proofs.YtlblfblkallnhaaGreatDoor
