/- The walks of table.Check's parts: within, Index, Agree, pointsRight, settingsRight. -/
import Derived.Test.YtlblfblkallnhaaGreatDoorTbCod
import Derived.Test.YtlblfblkallnhaaGreatDoorTbBase
namespace Go.Proofs.YtlblfblkallnhaaGreatDoor
set_option linter.unusedVariables false
set_option linter.unusedSimpArgs false
open Go.RowKit
attribute [local go_sem] bs_size bs_get bs_append bs_extract bs_toList
attribute [-go_sem] run_equalIn_agg
theorem twithin_any (n c : Int) (w : World) (hc : c < 9223372036854775807) : Calls Tryz.prog 33 #[.int .i64 n, .int .i64 c] w fun e w' => e = .returned (.bool (inB n 0 (c - 1))) ∧ w = w' := by
  go_enter Tryz.func33, Tryz.ntmps33
  go_wp2
  all_goals (go_ret; refine ⟨ret_b ?_, rfl⟩; unfold inB; rw [Bool.eq_iff_iff]; simp only [Bool.and_eq_true, decide_eq_true_eq, Bool.false_eq_true, true_iff, false_iff]; omega)
theorem twithinC {n c : Int} {b : Bool} (h : inB n 0 (c - 1) = b) (w : World) (hc : c < 9223372036854775807) : Calls Tryz.prog 33 #[.int .i64 n, .int .i64 c] w fun e w' => e = .returned (.bool b) ∧ w = w' := h ▸ twithin_any n c w hc
theorem twithinQ (n c : Int) (w : World) (hc : c < 9223372036854775807) : Calls Tryz.prog 33 #[.int .i64 n, .int .i64 c] w fun e w' => e = .returned (.bool (inB n 0 (c - 1))) ∧ w' = w := (twithin_any n c w hc).mono fun _ _ ⟨h1, h2⟩ => ⟨h1, h2.symm⟩
theorem take_noI {α : Type} {l : List α} {k : Nat} {x : α} (hlt : k < l.length) (h : x ∉ l.take k) (hx : ¬ l[k] = x) : x ∉ l.take (k + 1) := by
  rw [List.take_succ_eq_append_getElem hlt]
  intro hm
  rcases List.mem_append.1 hm with hm | hm
  · exact h hm
  · exact hx (List.mem_singleton.1 hm).symm
set_option maxHeartbeats 2000000 in
/-- The first place of a number: not negative exactly if it is there. -/
theorem indexI_any (l : List Int) (A : Option Addr) (cap : Nat) (x : Int) (w : World) (hr : RdS cI w (Lt w) A l) (hl : l.length ≤ maxLen) :
    Calls Tryz.prog 99 #[.slice A l.length cap, .int .i64 x] w fun e w' => (∃ n : Int, e = .returned (.int .i64 n) ∧ (n < 0 ↔ x ∉ l)) ∧ w = w' := by
  unfold maxLen at hl
  go_enter Tryz.func99, Tryz.ntmps99
  go_wp2
  go_loop [8] (fun i => ∃ k : Nat, k ≤ l.length ∧ i = .int .i64 k ∧ Hid (x ∉ l.take k)) (fun i => l.length - (intOf i).toNat)
  case atStart => exact ⟨0, Nat.zero_le _, rfl, Lib.hid (by simp)⟩
  case round =>
    obtain ⟨k, hk, rfl, HK⟩ := hrel
    by_cases hlt : k < l.length
    · have hki : (k : Int) < (l.length : Int) := by omega
      obtain ⟨b, off, rfl, lb, ho, y0⟩ := hr.elI hlt
      by_cases hx : l[k] = x
      · have HE : Hid (x ∈ l) := Lib.hid (hx ▸ List.getElem_mem hlt)
        have hxb : (x == l[k]) = true := by simp [hx]
        clear hx hr ho
        generalize l[k] = q at *
        go_wp2_with fail
        go_ret
        exact ⟨⟨(k : Int), rfl, ⟨fun h => by omega, fun h => absurd HE.out h⟩⟩, rfl⟩
      · have HN := Lib.hid (take_noI hlt HK.out hx)
        have hxb : (x == l[k]) = false := by rw [beq_eq_false_iff_ne]; exact fun e => hx e.symm
        clear hx hr ho
        generalize l[k] = q at *
        go_wp2_with fail
        go_round
        case rel => exact ⟨k + 1, by omega, by go_num, HN⟩
        case measure => simp [intOf]; omega
    · have HE : Hid (x ∉ l) := Lib.hid (by
        have h1 := HK.out
        rwa [List.take_of_length_le (by omega)] at h1)
      go_wp2_with fail
      go_ret
      exact ⟨⟨-1, rfl, ⟨fun _ => HE.out, fun _ => by omega⟩⟩, rfl⟩
set_option maxHeartbeats 4000000 in
theorem tindex_any (v : TabV) (x : Int) (w : World) (hr : TvR w v) : Calls Tryz.prog 74 #[tvA v, .int .i64 x] w fun e w' => (∃ n : Int, e = .returned (.int .i64 n) ∧ (n < 0 ↔ x ∉ v.t.pts)) ∧ Below w.heap.size w w' := by
  have hb := Bx.new hr
  have x1 := hb.x1
  have HI := Lib.hid (indexI_any v.t.pts v.A2 v.c2 x _ hb.rd.r2 hr.n2.1)
  unfold tvA
  go_enter Tryz.func74, Tryz.ntmps74
  go_wp2_with fail
  refine HI.out.mono ?_
  rintro e w1 ⟨⟨n, rfl, hn⟩, rfl⟩
  have HN := Lib.hid hn
  clear hn x1
  go_wp2_with fail
  go_ret
  exact ⟨⟨n, rfl, HN.out⟩, hb.bel⟩
/-! ### Agree -/
theorem agr_step {a b : List Stg} {k : Nat} (hk : k < a.length) (h : (a.take k).all (fun x => b.all fun y => !(decide (x.el = y.el) && decide (x.pos ≠ y.pos))) = true) (h2 : (b.all fun y => !(decide (a[k].el = y.el) && decide (a[k].pos ≠ y.pos))) = true) : (a.take (k + 1)).all (fun x => b.all fun y => !(decide (x.el = y.el) && decide (x.pos ≠ y.pos))) = true := all_take2 hk h h2
theorem agr_no {a b : List Stg} {i j : Nat} (hi : i < a.length) (hj : j < b.length) (h1 : a[i].el = b[j].el) (h2 : a[i].pos ≠ b[j].pos) : agrB a b = false := by
  unfold agrB
  exact all_no2 hi (all_no2 hj (by simp [h1, h2]))
theorem agr_in {x : Stg} {b : List Stg} {j : Nat} (hj : j < b.length) (h : ((b.take j).all fun y => !(decide (x.el = y.el) && decide (x.pos ≠ y.pos))) = true) (h2 : ¬ (x.el = b[j].el ∧ x.pos ≠ b[j].pos)) : ((b.take (j + 1)).all fun y => !(decide (x.el = y.el) && decide (x.pos ≠ y.pos))) = true :=
  all_take2 hj h (by
    rw [Bool.not_eq_true', Bool.and_eq_false_iff]
    by_cases he : x.el = b[j].el
    · right; simp only [decide_eq_false_iff_not]; exact fun hp => h2 ⟨he, hp⟩
    · left; simpa using he)
set_option maxRecDepth 100000 in
set_option maxHeartbeats 8000000 in
theorem agree_any (a b : List Stg) (A B : Option Addr) (ca cb : Nat) (w : World) (ha : RdS cStg w (Lt w) A a) (hb : RdS cStg w (Lt w) B b) (la : a.length ≤ maxLen) (lb : b.length ≤ maxLen) :
    Calls Tryz.prog 37 #[.slice A a.length ca, .slice B b.length cb] w fun e w' => e = .returned (.bool (agrB a b)) ∧ Below w.heap.size w w' := by
  unfold maxLen at la lb
  go_enter Tryz.func37, Tryz.ntmps37
  go_wp2_with fail
  go_loopw [11] (fun n wr => ∃ k : Nat, k ≤ a.length ∧ n = .int .i64 k ∧ Below w.heap.size w wr ∧ Hid ((a.take k).all (fun x => b.all fun y => !(decide (x.el = y.el) && decide (x.pos ≠ y.pos))) = true)) (fun n _ => a.length - (intOf n).toNat)
  case atStart => exact ⟨0, Nat.zero_le _, rfl, Below.refl _ _, Lib.hid (by simp)⟩
  case round =>
    obtain ⟨k, hk, rfl, hbel, HK⟩ := hrel
    by_cases hlt : k < a.length
    · have hki : (k : Int) < (a.length : Int) := by omega
      obtain ⟨p1, o1, rfl, l1, -, y0, y1⟩ := (ha.now hbel).elG hlt
      have hba := hbel.alloc hbel.size (.cells #[.int .i64 a[k].el, .int .i64 a[k].pos] 99)
      have hx6 : Blk (wr.alloc (.cells #[.int .i64 a[k].el, .int .i64 a[k].pos] 99)) wr.heap.size 99 #[.int .i64 a[k].el, .int .i64 a[k].pos] := Blk.new _ _ _ _ rfl
      have HST := Lib.hid fun h2 => agr_step (a := a) (b := b) hlt HK.out h2
      have HNO := Lib.hid fun (j : Nat) (hj : j < b.length) => agr_no (a := a) (b := b) hlt hj
      clear HK ha
      generalize a[k] = p at *
      go_wp2_with fail
      generalize hw1 : wr.alloc (.cells #[.int .i64 p.el, .int .i64 p.pos] 99) = w1 at *
      generalize hg1 : wr.heap.size = g1 at *
      clear hw1 hbel y0 y1 l1
      go_loopw [17] (fun n wr => ∃ j : Nat, j ≤ b.length ∧ n = .int .i64 j ∧ Below w.heap.size w wr ∧ Blk wr g1 99 #[.int .i64 p.el, .int .i64 p.pos] ∧ Hid (((b.take j).all fun y => !(decide (p.el = y.el) && decide (p.pos ≠ y.pos))) = true)) (fun n _ => b.length - (intOf n).toNat)
      case atStart => exact ⟨0, Nat.zero_le _, rfl, hba, hx6, Lib.hid (by simp)⟩
      case round =>
        clear hba hx6
        obtain ⟨j, hj, rfl, hbel, hx, HJ⟩ := hrel
        by_cases hltj : j < b.length
        · have hji : (j : Int) < (b.length : Int) := by omega
          obtain ⟨p2, o2, rfl, l2, -, z0, z1⟩ := (hb.now hbel).elG hltj
          have hba2 := hbel.alloc hbel.size (.cells #[.int .i64 b[j].el, .int .i64 b[j].pos] 99)
          have hxa := hx.alloc (.cells #[.int .i64 b[j].el, .int .i64 b[j].pos] 99)
          have u0 := hxa.cell 0
          have u1 := hxa.cell 1
          simp only [List.getElem?_toArray, List.getElem?_cons_zero, List.getElem?_cons_succ] at u0 u1
          have HIN := Lib.hid fun h2 => agr_in (x := p) hltj HJ.out h2
          have HN2 := Lib.hid (HNO.out j hltj)
          by_cases he : p.el = b[j].el
          · by_cases hp : p.pos = b[j].pos
            · have HR := Lib.hid (HIN.out fun h => h.2 hp)
              have t1 : (p.el == b[j].el) = true := by simp [he]
              have t2 : (p.pos != b[j].pos) = false := by simp [hp]
              clear HIN HN2 HJ he hp
              generalize b[j] = q at *
              go_wp2_with fail
              go_roundw
              case rel => exact ⟨j + 1, by omega, by go_num, hba2, hxa, HR⟩
              case measure => simp [intOf]; omega
            · have HR := Lib.hid (HN2.out he hp)
              have t1 : (p.el == b[j].el) = true := by simp [he]
              have t2 : (p.pos != b[j].pos) = true := by simp [hp]
              clear HIN HN2 HJ he hp
              generalize b[j] = q at *
              go_wp2_with fail
              go_ret
              exact ⟨ret_b HR.out.symm, hba2⟩
          · have HR := Lib.hid (HIN.out fun h => he h.1)
            have t1 : (p.el == b[j].el) = false := by simp [he]
            clear HIN HN2 HJ he
            generalize b[j] = q at *
            go_wp2_with fail
            go_roundw
            case rel => exact ⟨j + 1, by omega, by go_num, hba2, hxa, HR⟩
            case measure => simp [intOf]; omega
        · have HR := Lib.hid (HST.out (all_end2 hltj HJ.out))
          go_wp2_with fail
          go_roundw
          case rel => exact ⟨k + 1, by omega, by go_num, hbel, HR⟩
          case measure => simp [intOf]; omega
    · have HR : Hid (agrB a b = true) := Lib.hid (all_end2 hlt HK.out)
      go_wp2_with fail
      go_ret
      exact ⟨ret_b HR.out.symm, hbel⟩
end Go.Proofs.YtlblfblkallnhaaGreatDoor
