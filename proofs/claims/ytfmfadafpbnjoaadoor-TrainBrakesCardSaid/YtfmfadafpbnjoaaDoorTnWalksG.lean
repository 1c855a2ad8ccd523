/- The walks of the steepest fall, and of the weakest brake. -/
import Derived.Test.YtfmfadafpbnjoaaDoorTnWalksF
namespace Go.Proofs.YtfmfadafpbnjoaaDoor
set_option linter.unusedVariables false
set_option linter.unusedSimpArgs false
open Go.RowKit
attribute [local go_sem] bs_size bs_get bs_append bs_extract bs_toList
theorem touches_any (f t : Int) (x : Sgm) (w : World) :
    Calls Tryd.prog 53 #[.agg #[.int .i64 f, .int .i64 t], .agg #[.int .i64 x.fr, .int .i64 x.to, .int .i64 x.grd, .int .i64 x.spd]] w fun e w' => e = .returned (.bool (touB f t x)) ∧ Below w.heap.size w w' := by
  go_enter Tryd.func53, Tryd.ntmps53
  go_wp2
  all_goals (go_ret; refine ⟨ret_b ?_, by (repeat' (first | (with_reducible exact Below.refl _ _) | (with_reducible assumption) | (with_reducible refine Below.drewN ?_ _) | (with_reducible refine Below.drew ?_) | (with_reducible refine Below.alloc ?_ ?_ _) | (with_reducible refine Below.setCell ?_ ?_ _) | (with_reducible exact Nat.le_refl _) | (with_reducible exact Below.size (by assumption)) | omega | (simp only [World.size_alloc, World.size_setCell, World.size_drew]; omega) | (simp; done) | (simp; omega)))⟩; unfold touB; rw [Bool.eq_iff_iff]; simp only [Bool.and_eq_true, decide_eq_true_eq, Bool.false_eq_true, true_iff, false_iff]; omega)
theorem grade_any (x : Sgm) (w : World) :
    Calls Tryd.prog 54 #[.agg #[.int .i64 x.fr, .int .i64 x.to, .int .i64 x.grd, .int .i64 x.spd]] w fun e w' => e = .returned (.int .i64 x.grd) ∧ Below w.heap.size w w' := by
  go_enter Tryd.func54, Tryd.ntmps54
  go_wp2
  go_ret
  exact ⟨rfl, by (repeat' (first | (with_reducible exact Below.refl _ _) | (with_reducible assumption) | (with_reducible refine Below.drewN ?_ _) | (with_reducible refine Below.drew ?_) | (with_reducible refine Below.alloc ?_ ?_ _) | (with_reducible refine Below.setCell ?_ ?_ _) | (with_reducible exact Nat.le_refl _) | (with_reducible exact Below.size (by assumption)) | omega | (simp only [World.size_alloc, World.size_setCell, World.size_drew]; omega) | (simp; done) | (simp; omega)))⟩
theorem validC {p : List Sgm} {b : Bool} (h : validB p = b) (A : Option Addr) (cap : Nat) (w : World) (hr : RdS cG w (Lt w) A p) (hl : p.length ≤ maxLen) :
    Calls Tryd.prog 66 #[.slice A p.length cap] w fun e w' => e = .returned (.bool b) ∧ Below w.heap.size w w' := h ▸ valid_any p A cap w hr hl
theorem rvalidC {p : List Sgm} {b : Bool} (h : validB p = b) (A : Option Addr) (cap : Nat) (w : World) (hr : RdS cG w (Lt w) A p) (hl : p.length ≤ maxLen) :
    Calls Tryd.prog 67 #[.slice A p.length cap] w fun e w' => e = .returned (.bool b) ∧ Below w.heap.size w w' := h ▸ rvalid_any p A cap w hr hl
theorem leastG_snoc (l : List Sgm) (x : Sgm) : ∀ o, leastG o (l ++ [x]) = some (match leastG o l with
    | none => x.grd
    | some e => if x.grd < e then x.grd else e) := by
  induction l with
  | nil => intro o; cases o <;> rfl
  | cons y r ih =>
    intro o
    rw [List.cons_append]
    cases o with
    | none => rw [leastG, leastG, ih]
    | some e => rw [leastG, leastG, ih]
theorem steep_no {p : List Sgm} (f t : Int) (h : validB p = false) : steepF p f t = 0 := by unfold steepF; rw [h]; rfl
theorem steep_yes {p : List Sgm} (f t : Int) (h : validB p = true) : steepF p f t = (leastG none (p.filter (touB f t))).getD 0 := by unfold steepF; rw [if_pos h]
/-- What the program's loop keeps. -/
def LS (p : List Sgm) (f t : Int) (k : Nat) (o : Option Int) : Prop := leastG none ((p.take k).filter (touB f t)) = o
theorem LS_skip {p : List Sgm} {f t : Int} {k : Nat} {o : Option Int} (h : LS p f t k o) (hk : k < p.length) (ht : touB f t p[k] = false) : LS p f t (k + 1) o := by
  unfold LS at *
  rw [List.take_succ_eq_append_getElem hk, List.filter_append, List.filter_cons, ht]
  simpa using h
theorem LS_take {p : List Sgm} {f t : Int} {k : Nat} {o : Option Int} (h : LS p f t k o) (hk : k < p.length) (ht : touB f t p[k] = true) : LS p f t (k + 1) (some (match o with
    | none => p[k].grd
    | some e => if p[k].grd < e then p[k].grd else e)) := by
  unfold LS at *
  rw [List.take_succ_eq_append_getElem hk, List.filter_append, List.filter_cons, ht]
  simp only [if_true, List.filter_nil]
  rw [leastG_snoc, h]
theorem LS_end {p : List Sgm} {f t : Int} {k : Nat} {o : Option Int} (h : LS p f t k o) (hk : ¬ k < p.length) : leastG none (p.filter (touB f t)) = o := by
  unfold LS at h
  rwa [List.take_of_length_le (by omega)] at h
theorem touC {f t : Int} {x : Sgm} {b : Bool} (h : touB f t x = b) (w : World) :
    Calls Tryd.prog 53 #[.agg #[.int .i64 f, .int .i64 t], .agg #[.int .i64 x.fr, .int .i64 x.to, .int .i64 x.grd, .int .i64 x.spd]] w fun e w' => e = .returned (.bool b) ∧ Below w.heap.size w w' := h ▸ touches_any f t x w
set_option maxRecDepth 100000 in
set_option maxHeartbeats 8000000 in
theorem least_any (p : List Sgm) (A : Option Addr) (cap : Nat) (f t : Int) (w : World) (hr : RdS cG w (Lt w) A p) (hl : p.length ≤ maxLen) :
    Calls Tryd.prog 52 #[.slice A p.length cap, .func (.func 53) #[.agg #[.int .i64 f, .int .i64 t]] #[], .func (.func 54) #[] #[]] w fun e w' => e = .returned (.int .i64 (steepF p f t)) ∧ Below w.heap.size w w' := by
  cases hv : validB p with
  | false =>
    have HF := Lib.hid (steep_no f t hv)
    have HV := Lib.hid hv
    clear hv
    go_enter Tryd.func52, Tryd.ntmps52
    go_wp2_with fail
    refine (validC HV.out A cap _ hr hl).mono ?_
    rintro e w1 ⟨rfl, hb1⟩
    go_wp2_with fail
    go_ret
    exact ⟨ret_iT HF.out.symm, hb1⟩
  | true =>
    have HF := Lib.hid (steep_yes f t hv)
    have HV := Lib.hid hv
    clear hv
    go_enter Tryd.func52, Tryd.ntmps52
    go_wp2_with fail
    refine (validC HV.out A cap _ hr hl).mono ?_
    rintro e w1 ⟨rfl, hb1⟩
    have hz1 := hb1.size
    unfold maxLen at hl
    go_wp2_with fail
    go_loopw [7, 8, 16] (fun rs fd i wr => ∃ (k : Nat) (o : Option Int), k ≤ p.length ∧ i = .int .i64 k ∧ rs = .int .i64 (o.getD 0) ∧ fd = .bool o.isSome ∧ Below w.heap.size w wr ∧ Hid (LS p f t k o)) (fun _ _ i _ => p.length - (intOf i).toNat)
    case atStart => exact ⟨0, none, Nat.zero_le _, rfl, rfl, rfl, hb1, Lib.hid rfl⟩
    case round =>
      obtain ⟨k, o, hk, rfl, rfl, rfl, hbr, HK⟩ := hrel
      by_cases hlt : k < p.length
      · have hki : (k : Int) < (p.length : Int) := by omega
        obtain ⟨b1, o1, rfl, l1, ho, x0, x1, x2, x3⟩ := (hr.now hbr).el4 hlt
        have hblk : Blk (wr.alloc (.cells #[.int .i64 p[k].fr, .int .i64 p[k].to, .int .i64 p[k].grd, .int .i64 p[k].spd] 39)) wr.heap.size 39 #[.int .i64 p[k].fr, .int .i64 p[k].to, .int .i64 p[k].grd, .int .i64 p[k].spd] := Blk.new _ _ _ _ rfl
        have hba := hbr.alloc hbr.size (.cells #[.int .i64 p[k].fr, .int .i64 p[k].to, .int .i64 p[k].grd, .int .i64 p[k].spd] 39)
        cases ht : touB f t p[k] with
        | false =>
          have HN := Lib.hid (LS_skip HK.out hlt ht)
          have HT := Lib.hid fun W => touC ht W
          clear ht hr ho
          generalize p[k] = x at *
          go_wp2_with fail
          refine (HT.out _).mono ?_
          rintro e w2 ⟨rfl, hb2⟩
          have hB2 := bel_then hba hba.size hb2
          go_wp2_with fail
          go_roundw
          case rel => exact ⟨k + 1, o, by omega, by go_num, rfl, rfl, hB2, HN⟩
          case measure => simp [intOf]; omega
        | true =>
          have HN0 := Lib.hid (LS_take HK.out hlt ht)
          have HT := Lib.hid fun W => touC ht W
          have HG := Lib.hid fun W => grade_any p[k] W
          clear ht hr ho
          generalize p[k] = x at *
          cases o with
          | none =>
            have HN : Hid (LS p f t (k + 1) (some x.grd)) := Lib.hid HN0.out
            go_wp2_with fail
            refine (HT.out _).mono ?_
            rintro e w2 ⟨rfl, hb2⟩
            have hblk2 := hblk.now hb2
            have hB2 := bel_then hba hba.size hb2
            have c0 : w2.cell? ⟨wr.heap.size, 0, none⟩ = some (.int .i64 x.fr) := hblk2.cell 0
            have c1 : w2.cell? ⟨wr.heap.size, 1, none⟩ = some (.int .i64 x.to) := hblk2.cell 1
            have c2 : w2.cell? ⟨wr.heap.size, 2, none⟩ = some (.int .i64 x.grd) := hblk2.cell 2
            have c3 : w2.cell? ⟨wr.heap.size, 3, none⟩ = some (.int .i64 x.spd) := hblk2.cell 3
            go_wp2_with fail
            refine (HG.out _).mono ?_
            rintro e w3 ⟨rfl, hb3⟩
            have hB3 := bel_then hB2 hB2.size hb3
            go_wp2_with fail
            go_roundw
            case rel => exact ⟨k + 1, some x.grd, by omega, by go_num, rfl, rfl, hB3, HN⟩
            case measure => simp [intOf]; omega
          | some v =>
            by_cases hxv : x.grd < v
            · have HN : Hid (LS p f t (k + 1) (some x.grd)) := Lib.hid (by have := HN0.out; simpa [hxv] using this)
              go_wp2_with fail
              refine (HT.out _).mono ?_
              rintro e w2 ⟨rfl, hb2⟩
              have hblk2 := hblk.now hb2
              have hB2 := bel_then hba hba.size hb2
              have c0 : w2.cell? ⟨wr.heap.size, 0, none⟩ = some (.int .i64 x.fr) := hblk2.cell 0
              have c1 : w2.cell? ⟨wr.heap.size, 1, none⟩ = some (.int .i64 x.to) := hblk2.cell 1
              have c2 : w2.cell? ⟨wr.heap.size, 2, none⟩ = some (.int .i64 x.grd) := hblk2.cell 2
              have c3 : w2.cell? ⟨wr.heap.size, 3, none⟩ = some (.int .i64 x.spd) := hblk2.cell 3
              go_wp2_with fail
              refine (HG.out _).mono ?_
              rintro e w3 ⟨rfl, hb3⟩
              have hblk3 := hblk2.now hb3
              have hB3 := bel_then hB2 hB2.size hb3
              clear c0 c1 c2 c3
              have c0 : w3.cell? ⟨wr.heap.size, 0, none⟩ = some (.int .i64 x.fr) := hblk3.cell 0
              have c1 : w3.cell? ⟨wr.heap.size, 1, none⟩ = some (.int .i64 x.to) := hblk3.cell 1
              have c2 : w3.cell? ⟨wr.heap.size, 2, none⟩ = some (.int .i64 x.grd) := hblk3.cell 2
              have c3 : w3.cell? ⟨wr.heap.size, 3, none⟩ = some (.int .i64 x.spd) := hblk3.cell 3
              go_wp2_with fail
              refine (HG.out _).mono ?_
              rintro e w4 ⟨rfl, hb4⟩
              have hB4 := bel_then hB3 hB3.size hb4
              go_wp2_with fail
              go_roundw
              case rel => exact ⟨k + 1, some x.grd, by omega, by go_num, rfl, rfl, hB4, HN⟩
              case measure => simp [intOf]; omega
            · have HN : Hid (LS p f t (k + 1) (some v)) := Lib.hid (by have := HN0.out; simpa [hxv] using this)
              go_wp2_with fail
              refine (HT.out _).mono ?_
              rintro e w2 ⟨rfl, hb2⟩
              have hblk2 := hblk.now hb2
              have hB2 := bel_then hba hba.size hb2
              have c0 : w2.cell? ⟨wr.heap.size, 0, none⟩ = some (.int .i64 x.fr) := hblk2.cell 0
              have c1 : w2.cell? ⟨wr.heap.size, 1, none⟩ = some (.int .i64 x.to) := hblk2.cell 1
              have c2 : w2.cell? ⟨wr.heap.size, 2, none⟩ = some (.int .i64 x.grd) := hblk2.cell 2
              have c3 : w2.cell? ⟨wr.heap.size, 3, none⟩ = some (.int .i64 x.spd) := hblk2.cell 3
              go_wp2_with fail
              refine (HG.out _).mono ?_
              rintro e w3 ⟨rfl, hb3⟩
              have hB3 := bel_then hB2 hB2.size hb3
              go_wp2_with fail
              go_roundw
              case rel => exact ⟨k + 1, some v, by omega, by go_num, rfl, rfl, hB3, HN⟩
              case measure => simp [intOf]; omega
      · have HE : Hid (steepF p f t = o.getD 0) := Lib.hid (by rw [HF.out, LS_end HK.out hlt])
        go_wp2_with fail
        go_ret
        exact ⟨ret_iT HE.out.symm, hbr⟩
set_option maxHeartbeats 1000000 in
theorem steepest_any (p : List Sgm) (A : Option Addr) (cap : Nat) (f t : Int) (w : World) (hr : RdS cG w (Lt w) A p) (hl : p.length ≤ maxLen) :
    Calls Tryd.prog 35 #[.slice A p.length cap, .int .i64 f, .int .i64 t] w fun e w' => e = .returned (.int .i64 (steepF p f t)) ∧ Below w.heap.size w w' := by
  have hmf : ∀ (fn : Fn) (first cap : Array Value) (w : World), (Instr.makeFunc fn first cap).run Tryd.prog w = .ok (.func fn first cap) w := fun _ _ _ _ => rfl
  go_enter Tryd.func35, Tryd.ntmps35
  go_wp2_with fail
  refine (least_any p A cap f t w hr hl).mono ?_
  rintro e w1 ⟨rfl, hb1⟩
  go_wp2_with fail
  go_ret
  exact ⟨rfl, hb1⟩
end Go.Proofs.YtfmfadafpbnjoaaDoor
