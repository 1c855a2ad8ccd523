/- TimetableChecks, TimetableTimes, TimetableDelays: for every argument. -/
import Derived.Test.YtaedelcbioiogaaTtAlive
namespace Go.Proofs.Ytaedelcbioiogaa
set_option linter.unusedVariables false
set_option linter.unusedSimpArgs false
open Go.RowKit
def fewT (R : List Rte) (l : List Trp) : Bool := decide (R.length ≤ 100) && fewB l
theorem few48_any (R : List Rte) (B : Option Addr) (d : Nat) (y z : Sl) (s g : Int) (l : List Trp) (A : Option Addr) (c : Nat) (w : World) (hlR : R.length ≤ 9223372036854775807) (hl : l.length ≤ 9223372036854775807) (hA : RdS cTrp w w.heap.size A l) :
    Calls Try.prog 8 #[.agg #[.slice B R.length d, .slice y.1 y.2.1 y.2.2, .slice z.1 z.2.1 z.2.2, .int .i64 s, .int .i64 g], .slice A l.length c] w fun e w' => e = .returned (.bool (fewT R l)) ∧ Below w.heap.size w w' := by
  have hb0 : Below w.heap.size w (w.alloc (.cells #[.slice B R.length d, .slice y.1 y.2.1 y.2.2, .slice z.1 z.2.1 z.2.2, .int .i64 s, .int .i64 g] 25)) := (Below.refl _ _).alloc (Nat.le_refl _) _
  have HA := Lib.hid (hA.now hb0)
  clear hA
  by_cases h : R.length ≤ 100
  · have HF := Lib.hid (show fewT R l = fewB l by unfold fewT; rw [decide_eq_true h, Bool.true_and])
    have d1 : decide ((R.length : Int) ≤ 100) = true := by simp; omega
    go_enter Try.func8, Try.ntmps8
    go_wp2_with fail
    refine (few20_any l A c _ hl HA.out).mono ?_
    rintro e w1 ⟨rfl, hb⟩
    cases hq : fewB l
    · go_wp2_with fail
      go_ret
      exact ⟨by rw [HF.out, hq]; rfl, bel_two hb0 (Nat.le_refl _) hb⟩
    · go_wp2_with fail
      go_ret
      exact ⟨by rw [HF.out, hq]; rfl, bel_two hb0 (Nat.le_refl _) hb⟩
  · have HF := Lib.hid (show fewT R l = false by unfold fewT; rw [decide_eq_false h, Bool.false_and])
    have d1 : decide ((R.length : Int) ≤ 100) = false := by simp; omega
    clear h
    go_enter Try.func8, Try.ntmps8
    go_wp2_with fail
    go_ret
    exact ⟨by rw [HF.out]; rfl, hb0⟩
/-- The box of the table is there, the rows read as they did, and nothing that was there at first has turned. -/
structure TInv (w : World) (R : List Rte) (B : Option Addr) (d : Nat) (y z : Sl) (s g : Int) (l : List Trp) (A : Option Addr) (wr : World) : Prop where
  box : Blk wr w.heap.size 25 #[.slice B R.length d, .slice y.1 y.2.1 y.2.2, .slice z.1 z.2.1 z.2.2, .int .i64 s, .int .i64 g]
  rts : RdS cRte wr wr.heap.size B R
  trs : RdS cTrp wr wr.heap.size A l
  below : Below w.heap.size w wr
theorem TInv.step {w w1 w2 : World} {R : List Rte} {B : Option Addr} {d : Nat} {y z : Sl} {s g : Int} {l : List Trp} {A : Option Addr} (h : TInv w R B d y z s g l A w1) (hb : Below w1.heap.size w1 w2) : TInv w R B d y z s g l A w2 :=
  ⟨h.box.now hb, h.rts.now hb, h.trs.now hb, bel_two h.below (Nat.le_refl _) hb⟩
theorem TInv.start {w : World} {R : List Rte} {B : Option Addr} {d : Nat} {y z : Sl} {s g : Int} {l : List Trp} {A : Option Addr} (hR : RdS cRte w w.heap.size B R) (hA : RdS cTrp w w.heap.size A l) : TInv w R B d y z s g l A (w.alloc (.cells #[.slice B R.length d, .slice y.1 y.2.1 y.2.2, .slice z.1 z.2.1 z.2.2, .int .i64 s, .int .i64 g] 25)) := by
  have hb0 : Below w.heap.size w (w.alloc (.cells #[.slice B R.length d, .slice y.1 y.2.1 y.2.2, .slice z.1 z.2.1 z.2.2, .int .i64 s, .int .i64 g] 25)) := (Below.refl _ _).alloc (Nat.le_refl _) _
  exact ⟨Blk.new _ _ _ _ rfl, hR.now hb0, hA.now hb0, hb0⟩
theorem TInv.cells {w w1 : World} {R : List Rte} {B : Option Addr} {d : Nat} {y z : Sl} {s g : Int} {l : List Trp} {A : Option Addr} (h : TInv w R B d y z s g l A w1) : w1.cell? ⟨w.heap.size, 0, none⟩ = some (.slice B R.length d) ∧ w1.cell? ⟨w.heap.size, 1, none⟩ = some (.slice y.1 y.2.1 y.2.2) ∧ w1.cell? ⟨w.heap.size, 2, none⟩ = some (.slice z.1 z.2.1 z.2.2) ∧ w1.cell? ⟨w.heap.size, 3, none⟩ = some (.int .i64 s) ∧ w1.cell? ⟨w.heap.size, 4, none⟩ = some (.int .i64 g) ∧ TInv w R B d y z s g l A w1 := ⟨h.box.cell 0, h.box.cell 1, h.box.cell 2, h.box.cell 3, h.box.cell 4, h⟩
theorem tinv_of {w w1 : World} {R : List Rte} {B : Option Addr} {d : Nat} {y z : Sl} {s g : Int} {l : List Trp} {A : Option Addr} (h : w1.cell? ⟨w.heap.size, 0, none⟩ = some (.slice B R.length d) ∧ w1.cell? ⟨w.heap.size, 1, none⟩ = some (.slice y.1 y.2.1 y.2.2) ∧ w1.cell? ⟨w.heap.size, 2, none⟩ = some (.slice z.1 z.2.1 z.2.2) ∧ w1.cell? ⟨w.heap.size, 3, none⟩ = some (.int .i64 s) ∧ w1.cell? ⟨w.heap.size, 4, none⟩ = some (.int .i64 g) ∧ TInv w R B d y z s g l A w1) : TInv w R B d y z s g l A w1 := h.2.2.2.2.2
theorem theld_step {w w1 w2 : World} {R : List Rte} {B : Option Addr} {d : Nat} {y z : Sl} {s g : Int} {l : List Trp} {A : Option Addr} (h : w1.cell? ⟨w.heap.size, 0, none⟩ = some (.slice B R.length d) ∧ w1.cell? ⟨w.heap.size, 1, none⟩ = some (.slice y.1 y.2.1 y.2.2) ∧ w1.cell? ⟨w.heap.size, 2, none⟩ = some (.slice z.1 z.2.1 z.2.2) ∧ w1.cell? ⟨w.heap.size, 3, none⟩ = some (.int .i64 s) ∧ w1.cell? ⟨w.heap.size, 4, none⟩ = some (.int .i64 g) ∧ TInv w R B d y z s g l A w1) (hb : Below w1.heap.size w1 w2) : w2.cell? ⟨w.heap.size, 0, none⟩ = some (.slice B R.length d) ∧ w2.cell? ⟨w.heap.size, 1, none⟩ = some (.slice y.1 y.2.1 y.2.2) ∧ w2.cell? ⟨w.heap.size, 2, none⟩ = some (.slice z.1 z.2.1 z.2.2) ∧ w2.cell? ⟨w.heap.size, 3, none⟩ = some (.int .i64 s) ∧ w2.cell? ⟨w.heap.size, 4, none⟩ = some (.int .i64 g) ∧ TInv w R B d y z s g l A w2 := ((tinv_of h).step hb).cells
theorem theld_drew {w w1 : World} {R : List Rte} {B : Option Addr} {d : Nat} {y z : Sl} {s g : Int} {l : List Trp} {A : Option Addr} (h : w1.cell? ⟨w.heap.size, 0, none⟩ = some (.slice B R.length d) ∧ w1.cell? ⟨w.heap.size, 1, none⟩ = some (.slice y.1 y.2.1 y.2.2) ∧ w1.cell? ⟨w.heap.size, 2, none⟩ = some (.slice z.1 z.2.1 z.2.2) ∧ w1.cell? ⟨w.heap.size, 3, none⟩ = some (.int .i64 s) ∧ w1.cell? ⟨w.heap.size, 4, none⟩ = some (.int .i64 g) ∧ TInv w R B d y z s g l A w1) : w1.drew.cell? ⟨w.heap.size, 0, none⟩ = some (.slice B R.length d) ∧ w1.drew.cell? ⟨w.heap.size, 1, none⟩ = some (.slice y.1 y.2.1 y.2.2) ∧ w1.drew.cell? ⟨w.heap.size, 2, none⟩ = some (.slice z.1 z.2.1 z.2.2) ∧ w1.drew.cell? ⟨w.heap.size, 3, none⟩ = some (.int .i64 s) ∧ w1.drew.cell? ⟨w.heap.size, 4, none⟩ = some (.int .i64 g) ∧ TInv w R B d y z s g l A w1.drew := ((tinv_of h).step (Below.refl _ _).drew).cells
set_option maxRecDepth 100000 in
set_option maxHeartbeats 8000000 in
theorem timetableChecks_walk (R : List Rte) (B : Option Addr) (d : Nat) (y z : Sl) (s g : Int) (l : List Trp) (A : Option Addr) (c : Nat) (k : Int) (w : World) (hlR : R.length ≤ maxLen) (hR : RdS cRte w w.heap.size B R) (hl : l.length ≤ maxLen ∧ l.length ≤ c ∧ c ≤ maxLen) (hA : RdS cTrp w w.heap.size A l) (hk : I64n k) :
    Calls Try.prog 3 #[.agg #[.slice B R.length d, .slice y.1 y.2.1 y.2.2, .slice z.1 z.2.1 z.2.2, .int .i64 s, .int .i64 g], .slice A l.length c, .int .i64 k] w fun e w' => e = .returned (.bool true) ∧ Below w.heap.size w w' := by
  have e63 : maxLen ≤ 9223372036854775807 := by decide
  have q1 : R.length ≤ 9223372036854775807 := Nat.le_trans hlR e63
  have q2 : l.length ≤ 9223372036854775807 := Nat.le_trans hl.1 e63
  have q3 : c ≤ 9223372036854775807 := Nat.le_trans hl.2.2 e63
  have q4 := hl.2.1
  clear e63 hlR hl
  have hI := TInv.start (d := d) (y := y) (z := z) (s := s) (g := g) hR hA
  clear hR hA
  cases hf : fewT R l
  · have HF := Lib.hid hf
    clear hf
    go_enter Try.func3, Try.ntmps3
    go_wp2_with fail
    refine (few48_any R B d y z s g l A c _ q1 q2 hI.trs).mono ?_
    rw [HF.out]
    rintro e w1 ⟨rfl, hb⟩
    have hI1 := hI.step hb
    clear hI hb
    go_wp2_with fail
    refine (alive48 _).mono ?_
    rintro e w2 ⟨rfl, hb⟩
    go_wp2_with fail
    go_ret
    exact ⟨rfl, (hI1.step hb).below⟩
  · have HF := Lib.hid hf
    clear hf
    go_enter Try.func3, Try.ntmps3
    go_wp2_with fail
    refine (few48_any R B d y z s g l A c _ q1 q2 hI.trs).mono ?_
    rw [HF.out]
    rintro e w1 ⟨rfl, hb⟩
    have hS : w1.cell? ⟨w.heap.size, 0, none⟩ = some (.slice B R.length d) ∧ w1.cell? ⟨w.heap.size, 1, none⟩ = some (.slice y.1 y.2.1 y.2.2) ∧ w1.cell? ⟨w.heap.size, 2, none⟩ = some (.slice z.1 z.2.1 z.2.2) ∧ w1.cell? ⟨w.heap.size, 3, none⟩ = some (.int .i64 s) ∧ w1.cell? ⟨w.heap.size, 4, none⟩ = some (.int .i64 g) ∧ TInv w R B d y z s g l A w1 := (hI.step hb).cells
    clear hI hb
    go_wp2_with fail
    go_region_held3 (fun w' => w'.cell? ⟨w.heap.size, 0, none⟩ = some (.slice B R.length d) ∧ w'.cell? ⟨w.heap.size, 1, none⟩ = some (.slice y.1 y.2.1 y.2.2) ∧ w'.cell? ⟨w.heap.size, 2, none⟩ = some (.slice z.1 z.2.1 z.2.2) ∧ w'.cell? ⟨w.heap.size, 3, none⟩ = some (.int .i64 s) ∧ w'.cell? ⟨w.heap.size, 4, none⟩ = some (.int .i64 g) ∧ TInv w R B d y z s g l A w')
      (first | assumption | exact theld_drew ‹_› | (refine theld_step ?_ ‹_›; assumption))
      (first
        | (go_at_call 10; refine (check_any R B d y z s g l A c _ q1 q4 q3 (tinv_of (by assumption)).rts (tinv_of (by assumption)).trs).mono ?_; rintro e wq ⟨rfl, hq⟩)
        | (go_at_call 11; refine (rcheck_any R B d y z s g l A c _ q1 q2 (tinv_of (by assumption)).rts (tinv_of (by assumption)).trs).mono ?_; rintro e wq ⟨rfl, hq⟩)
        | (go_at_call 12; refine (trip_any l A c k R B d y z s g _ q2 (tinv_of (by assumption)).trs).mono ?_; rintro e wq ⟨rfl, hq⟩)
        | (go_at_call 13; refine (rtrip_any l A c k R B d y z s g _ q2 (tinv_of (by assumption)).trs).mono ?_; rintro e wq ⟨rfl, hq⟩)
        | (go_at_call 9; refine (alive48 _).mono ?_; rintro e wq ⟨rfl, hq⟩))
    all_goals (go_wp2_with fail)
    all_goals go_ret
    all_goals (refine ⟨?_, (tinv_of (by assumption)).below⟩)
    all_goals (first | rfl | simp)
def Rl (ln : Int) : Rte := ⟨{ data := #[] }, 0, 0, (none, 0, 0), (none, 0, 0), (none, 0, 0), 0, ln, (none, 0, 0), (none, 0, 0), (none, 0, 0), (none, 0, 0), (none, 0, 0), (none, 0, 0)⟩
set_option maxRecDepth 100000 in
set_option maxHeartbeats 8000000 in
theorem timetableTimes_walk (x : Int × ByteArray × Int × Int × Int × Int × Int × Int) (sp de : Int) (ln v : Int) (w : World) (h1 : I64n sp) (h2 : I64n de) (h3 : I64n ln) (h4 : I64n v) :
    Calls Try.prog 4 #[.agg #[.int .i64 x.1, .string x.2.1, .int .i64 x.2.2.1, .int .i64 sp, .int .i64 x.2.2.2.1, .int .i64 x.2.2.2.2.1, .int .i64 x.2.2.2.2.2.1, .int .i64 de, .int .i64 x.2.2.2.2.2.2.1, .int .i64 x.2.2.2.2.2.2.2], .int .i64 ln, .int .i64 v] w fun e w' => e = .returned (.bool true) ∧ Below w.heap.size w w' := by
  have hb0 : Below w.heap.size w ((w.alloc (.cells #[.int .i64 x.1, .string x.2.1, .int .i64 x.2.2.1, .int .i64 sp, .int .i64 x.2.2.2.1, .int .i64 x.2.2.2.2.1, .int .i64 x.2.2.2.2.2.1, .int .i64 de, .int .i64 x.2.2.2.2.2.2.1, .int .i64 x.2.2.2.2.2.2.2] 34)).alloc (.cells #[.string { data := #[] }, .int .i64 0, .int .i64 0, .slice none 0 0, .slice none 0 0, .slice none 0 0, .int .i64 0, .int .i64 ln, .slice none 0 0, .slice none 0 0, .slice none 0 0, .slice none 0 0, .slice none 0 0, .slice none 0 0] 39)) := ((Below.refl _ _).alloc (Nat.le_refl _) _).alloc (by simp) _
  have hP : Blk ((w.alloc (.cells #[.int .i64 x.1, .string x.2.1, .int .i64 x.2.2.1, .int .i64 sp, .int .i64 x.2.2.2.1, .int .i64 x.2.2.2.2.1, .int .i64 x.2.2.2.2.2.1, .int .i64 de, .int .i64 x.2.2.2.2.2.2.1, .int .i64 x.2.2.2.2.2.2.2] 34)).alloc (.cells #[.string { data := #[] }, .int .i64 0, .int .i64 0, .slice none 0 0, .slice none 0 0, .slice none 0 0, .int .i64 0, .int .i64 ln, .slice none 0 0, .slice none 0 0, .slice none 0 0, .slice none 0 0, .slice none 0 0, .slice none 0 0] 39)) w.heap.size 34 #[.int .i64 x.1, .string x.2.1, .int .i64 x.2.2.1, .int .i64 sp, .int .i64 x.2.2.2.1, .int .i64 x.2.2.2.2.1, .int .i64 x.2.2.2.2.2.1, .int .i64 de, .int .i64 x.2.2.2.2.2.2.1, .int .i64 x.2.2.2.2.2.2.2] := (Blk.new _ _ _ _ rfl).alloc _
  have hQ : Blk ((w.alloc (.cells #[.int .i64 x.1, .string x.2.1, .int .i64 x.2.2.1, .int .i64 sp, .int .i64 x.2.2.2.1, .int .i64 x.2.2.2.2.1, .int .i64 x.2.2.2.2.2.1, .int .i64 de, .int .i64 x.2.2.2.2.2.2.1, .int .i64 x.2.2.2.2.2.2.2] 34)).alloc (.cells #[.string { data := #[] }, .int .i64 0, .int .i64 0, .slice none 0 0, .slice none 0 0, .slice none 0 0, .int .i64 0, .int .i64 ln, .slice none 0 0, .slice none 0 0, .slice none 0 0, .slice none 0 0, .slice none 0 0, .slice none 0 0] 39)) (w.heap.size + 1) 39 #[.string { data := #[] }, .int .i64 0, .int .i64 0, .slice none 0 0, .slice none 0 0, .slice none 0 0, .int .i64 0, .int .i64 ln, .slice none 0 0, .slice none 0 0, .slice none 0 0, .slice none 0 0, .slice none 0 0, .slice none 0 0] := Blk.new _ _ _ _ (by simp)
  go_enter Try.func4, Try.ntmps4
  go_upto_region 2 with (fail)
  generalize ((w.alloc (.cells #[.int .i64 x.1, .string x.2.1, .int .i64 x.2.2.1, .int .i64 sp, .int .i64 x.2.2.2.1, .int .i64 x.2.2.2.2.1, .int .i64 x.2.2.2.2.2.1, .int .i64 de, .int .i64 x.2.2.2.2.2.2.1, .int .i64 x.2.2.2.2.2.2.2] 34)).alloc (.cells #[.string { data := #[] }, .int .i64 0, .int .i64 0, .slice none 0 0, .slice none 0 0, .slice none 0 0, .int .i64 0, .int .i64 ln, .slice none 0 0, .slice none 0 0, .slice none 0 0, .slice none 0 0, .slice none 0 0, .slice none 0 0] 39)) = wB at *
  have hz1 := hP.lt
  have hz2 := hQ.lt
  have hmk : ∀ w', Below wB.heap.size wB w' → Below wB.heap.size wB w' ∧ w'.cell? ⟨w.heap.size, 0, none⟩ = some (.int .i64 x.1) ∧ w'.cell? ⟨w.heap.size, 1, none⟩ = some (.string x.2.1) ∧ w'.cell? ⟨w.heap.size, 2, none⟩ = some (.int .i64 x.2.2.1) ∧ w'.cell? ⟨w.heap.size, 3, none⟩ = some (.int .i64 sp) ∧ w'.cell? ⟨w.heap.size, 4, none⟩ = some (.int .i64 x.2.2.2.1) ∧ w'.cell? ⟨w.heap.size, 5, none⟩ = some (.int .i64 x.2.2.2.2.1) ∧ w'.cell? ⟨w.heap.size, 6, none⟩ = some (.int .i64 x.2.2.2.2.2.1) ∧ w'.cell? ⟨w.heap.size, 7, none⟩ = some (.int .i64 de) ∧ w'.cell? ⟨w.heap.size, 8, none⟩ = some (.int .i64 x.2.2.2.2.2.2.1) ∧ w'.cell? ⟨w.heap.size, 9, none⟩ = some (.int .i64 x.2.2.2.2.2.2.2) ∧ w'.cell? ⟨w.heap.size + 1, 0, none⟩ = some (.string { data := #[] }) ∧ w'.cell? ⟨w.heap.size + 1, 1, none⟩ = some (.int .i64 0) ∧ w'.cell? ⟨w.heap.size + 1, 2, none⟩ = some (.int .i64 0) ∧ w'.cell? ⟨w.heap.size + 1, 3, none⟩ = some (.slice none 0 0) ∧ w'.cell? ⟨w.heap.size + 1, 4, none⟩ = some (.slice none 0 0) ∧ w'.cell? ⟨w.heap.size + 1, 5, none⟩ = some (.slice none 0 0) ∧ w'.cell? ⟨w.heap.size + 1, 6, none⟩ = some (.int .i64 0) ∧ w'.cell? ⟨w.heap.size + 1, 7, none⟩ = some (.int .i64 ln) ∧ w'.cell? ⟨w.heap.size + 1, 8, none⟩ = some (.slice none 0 0) ∧ w'.cell? ⟨w.heap.size + 1, 9, none⟩ = some (.slice none 0 0) ∧ w'.cell? ⟨w.heap.size + 1, 10, none⟩ = some (.slice none 0 0) ∧ w'.cell? ⟨w.heap.size + 1, 11, none⟩ = some (.slice none 0 0) ∧ w'.cell? ⟨w.heap.size + 1, 12, none⟩ = some (.slice none 0 0) ∧ w'.cell? ⟨w.heap.size + 1, 13, none⟩ = some (.slice none 0 0) := fun w' hq => by
    have k0 := fun o => hq.cell (p := ⟨w.heap.size, o, none⟩) hz1
    have k1 := fun o => hq.cell (p := ⟨w.heap.size + 1, o, none⟩) hz2
    exact ⟨hq, (k0 _).trans (hP.cell 0), (k0 _).trans (hP.cell 1), (k0 _).trans (hP.cell 2), (k0 _).trans (hP.cell 3), (k0 _).trans (hP.cell 4), (k0 _).trans (hP.cell 5), (k0 _).trans (hP.cell 6), (k0 _).trans (hP.cell 7), (k0 _).trans (hP.cell 8), (k0 _).trans (hP.cell 9), (k1 _).trans (hQ.cell 0), (k1 _).trans (hQ.cell 1), (k1 _).trans (hQ.cell 2), (k1 _).trans (hQ.cell 3), (k1 _).trans (hQ.cell 4), (k1 _).trans (hQ.cell 5), (k1 _).trans (hQ.cell 6), (k1 _).trans (hQ.cell 7), (k1 _).trans (hQ.cell 8), (k1 _).trans (hQ.cell 9), (k1 _).trans (hQ.cell 10), (k1 _).trans (hQ.cell 11), (k1 _).trans (hQ.cell 12), (k1 _).trans (hQ.cell 13)⟩
  have hS := hmk wB (Below.refl _ _)
  have HMK := Lib.hid hmk
  clear hmk hP hQ
  go_region_held3 (fun w' => Below wB.heap.size wB w' ∧ w'.cell? ⟨w.heap.size, 0, none⟩ = some (.int .i64 x.1) ∧ w'.cell? ⟨w.heap.size, 1, none⟩ = some (.string x.2.1) ∧ w'.cell? ⟨w.heap.size, 2, none⟩ = some (.int .i64 x.2.2.1) ∧ w'.cell? ⟨w.heap.size, 3, none⟩ = some (.int .i64 sp) ∧ w'.cell? ⟨w.heap.size, 4, none⟩ = some (.int .i64 x.2.2.2.1) ∧ w'.cell? ⟨w.heap.size, 5, none⟩ = some (.int .i64 x.2.2.2.2.1) ∧ w'.cell? ⟨w.heap.size, 6, none⟩ = some (.int .i64 x.2.2.2.2.2.1) ∧ w'.cell? ⟨w.heap.size, 7, none⟩ = some (.int .i64 de) ∧ w'.cell? ⟨w.heap.size, 8, none⟩ = some (.int .i64 x.2.2.2.2.2.2.1) ∧ w'.cell? ⟨w.heap.size, 9, none⟩ = some (.int .i64 x.2.2.2.2.2.2.2) ∧ w'.cell? ⟨w.heap.size + 1, 0, none⟩ = some (.string { data := #[] }) ∧ w'.cell? ⟨w.heap.size + 1, 1, none⟩ = some (.int .i64 0) ∧ w'.cell? ⟨w.heap.size + 1, 2, none⟩ = some (.int .i64 0) ∧ w'.cell? ⟨w.heap.size + 1, 3, none⟩ = some (.slice none 0 0) ∧ w'.cell? ⟨w.heap.size + 1, 4, none⟩ = some (.slice none 0 0) ∧ w'.cell? ⟨w.heap.size + 1, 5, none⟩ = some (.slice none 0 0) ∧ w'.cell? ⟨w.heap.size + 1, 6, none⟩ = some (.int .i64 0) ∧ w'.cell? ⟨w.heap.size + 1, 7, none⟩ = some (.int .i64 ln) ∧ w'.cell? ⟨w.heap.size + 1, 8, none⟩ = some (.slice none 0 0) ∧ w'.cell? ⟨w.heap.size + 1, 9, none⟩ = some (.slice none 0 0) ∧ w'.cell? ⟨w.heap.size + 1, 10, none⟩ = some (.slice none 0 0) ∧ w'.cell? ⟨w.heap.size + 1, 11, none⟩ = some (.slice none 0 0) ∧ w'.cell? ⟨w.heap.size + 1, 12, none⟩ = some (.slice none 0 0) ∧ w'.cell? ⟨w.heap.size + 1, 13, none⟩ = some (.slice none 0 0))
    (first | assumption | (refine HMK.out _ ?_; have hbq := (by assumption : Below wB.heap.size wB _ ∧ _).1; first | exact bel_then hbq hbq.size (by assumption) | (repeat' (first | (with_reducible exact Below.refl _ _) | (with_reducible assumption) | (with_reducible refine Below.drewN ?_ _) | (with_reducible refine Below.drew ?_) | (with_reducible refine Below.alloc ?_ ?_ _) | (with_reducible refine Below.setCell ?_ ?_ _) | (with_reducible exact Nat.le_refl _) | (with_reducible exact Below.size (by assumption)) | omega | (simp only [World.size_alloc, World.size_setCell, World.size_drew]; omega) | (simp; done) | (simp; omega)))))
    (first
      | (go_at_call 14; refine (need_any (Rl ln) x sp de v _ h3 h1 h4 h2).mono ?_; rintro e wq ⟨rfl, hq⟩)
      | (go_at_call 15; refine (rneed_any (Rl ln) x sp de v _ h3 h1 h4 h2).mono ?_; rintro e wq ⟨rfl, hq⟩)
      | (go_at_call 9; refine (alive48 _).mono ?_; rintro e wq ⟨rfl, hq⟩))
  all_goals (have hbq := (by assumption : Below wB.heap.size wB _ ∧ _).1)
  all_goals (go_wp2_with fail)
  all_goals go_ret
  all_goals (refine ⟨?_, bel_two hb0 (Nat.le_refl _) hbq⟩)
  all_goals (first | rfl | simp)
set_option maxRecDepth 100000 in
set_option maxHeartbeats 8000000 in
theorem timetableDelays_walk (l : List Trp) (A : Option Addr) (c : Nat) (st : List (List Int)) (B : Option Addr) (d : Nat) (w : World) (hl : l.length ≤ maxLen ∧ l.length ≤ c ∧ c ≤ maxLen) (hA : RdS cTrp w w.heap.size A l) (hst : st.length ≤ maxLen) (hB : RdS (cL cI) w w.heap.size B st) :
    Calls Try.prog 5 #[.slice A l.length c, .slice B st.length d] w fun e w' => e = .returned (.bool true) ∧ Below w.heap.size w w' := by
  have e63 : maxLen ≤ 9223372036854775807 := by decide
  have q1 : l.length ≤ 9223372036854775807 := Nat.le_trans hl.1 e63
  have q2 : st.length ≤ 9223372036854775807 := Nat.le_trans hst e63
  clear e63 hl hst
  cases hf : fewB l
  · have HF := Lib.hid hf
    clear hf
    go_enter Try.func5, Try.ntmps5
    go_wp2_with fail
    refine (few20_any l A c _ q1 hA).mono ?_
    rw [HF.out]
    rintro e w1 ⟨rfl, hb⟩
    go_wp2_with fail
    refine (alive48 _).mono ?_
    rintro e w2 ⟨rfl, hb2⟩
    go_wp2_with fail
    go_ret
    exact ⟨rfl, bel_two hb (Nat.le_refl _) hb2⟩
  · have HF := Lib.hid hf
    clear hf
    by_cases h30 : st.length ≤ 30
    · have d1 : decide (30 < (st.length : Int)) = false := by simp; omega
      go_enter Try.func5, Try.ntmps5
      go_wp2_with fail
      refine (few20_any l A c _ q1 hA).mono ?_
      rw [HF.out]
      rintro e w1 ⟨rfl, hb⟩
      go_wp2_with fail
      clear d1
      go_loopw [5] (fun i wr => ∃ k : Nat, k ≤ st.length ∧ i = .int .i64 k ∧ Below w.heap.size w wr) (fun i _ => (st.length - intOf i).toNat)
      case atStart => exact ⟨0, by omega, rfl, hb⟩
      case round =>
        clear hb
        obtain ⟨n, hk, rfl, hI⟩ := hrel
        by_cases hlt : n < st.length
        · obtain ⟨b', off', A2, c2, rfl, hb2, h4, h5, y0⟩ := rows_at (hB.below hI) hlt
          generalize st[n] = yy at h4 h5 y0
          have hn : (n : Int) < (st.length : Int) := by omega
          by_cases hy : yy.length ≤ 30
          · have d1 : decide (30 < (yy.length : Int)) = false := by simp; omega
            go_wp2_with fail
            go_roundw
            case rel => exact ⟨n + 1, by omega, by go_num, hI⟩
            case measure => simp [intOf] <;> omega
          · have d1 : decide (30 < (yy.length : Int)) = true := by simp; omega
            go_wp2_with fail
            refine (alive48 _).mono ?_
            rintro e w2 ⟨rfl, hb⟩
            go_wp2_with fail
            go_ret
            exact ⟨rfl, bel_two hI (Nat.le_refl _) hb⟩
        · have HA := Lib.hid ((hA.below hI).more hI.size)
          have HB := Lib.hid ((hB.below hI).more hI.size)
          go_wp2_with fail
          refine (delay_any l A c st B d _ HF.out q2 HA.out HB.out).mono ?_
          rintro e w2 ⟨rfl, hb⟩
          have hI2 := bel_two hI (Nat.le_refl _) hb
          clear hI hb
          have HA2 := Lib.hid ((hA.below hI2).more hI2.size)
          have HB2 := Lib.hid ((hB.below hI2).more hI2.size)
          go_wp2_with fail
          refine (rdelay_any l A c st B d _ HF.out q2 HA2.out HB2.out).mono ?_
          rintro e w3 ⟨rfl, hb⟩
          have hI3 := bel_two hI2 (Nat.le_refl _) hb
          clear hI2 hb
          go_wp2_with fail
          refine (alive48 _).mono ?_
          rintro e w4 ⟨rfl, hb⟩
          go_wp2_with fail
          go_ret
          exact ⟨by simp, bel_two hI3 (Nat.le_refl _) hb⟩
    · have d1 : decide (30 < (st.length : Int)) = true := by simp; omega
      go_enter Try.func5, Try.ntmps5
      go_wp2_with fail
      refine (few20_any l A c _ q1 hA).mono ?_
      rw [HF.out]
      rintro e w1 ⟨rfl, hb⟩
      go_wp2_with fail
      refine (alive48 _).mono ?_
      rintro e w2 ⟨rfl, hb2⟩
      go_wp2_with fail
      go_ret
      exact ⟨rfl, bel_two hb (Nat.le_refl _) hb2⟩
end Go.Proofs.Ytaedelcbioiogaa
