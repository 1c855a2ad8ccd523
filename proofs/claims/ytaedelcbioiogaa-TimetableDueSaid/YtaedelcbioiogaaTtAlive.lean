/- The walk of the examples of chapter 48. -/
import Derived.Test.YtaedelcbioiogaaTtRDelay
import Derived.Test.YtaedelcbioiogaaTtRChk
namespace Go.Proofs.Ytaedelcbioiogaa
set_option linter.unusedVariables false
set_option linter.unusedSimpArgs false
open Go.RowKit
attribute [local go_sem] bs_size bs_get bs_append bs_extract bs_toList bs_nil
/-- A block that is known whole reads as data. -/
theorem rds_blk {α : Type} {n : Nat} {cells : α → List Value} {ok : α → Prop} {hn : ∀ a, (cells a).length = n} {w : World} {g : Nat} {t : TypeId} {l : List α} (h : Blk w g t (l.flatMap cells).toArray) (hok : ∀ x ∈ l, ok x) : RdS (cF n cells ok hn) w w.heap.size (some ⟨g, 0, none⟩) l := by
  refine fun hl => ⟨g, 0, rfl, h.lt, fun i x hx => ⟨cells x, ⟨rfl, hok x (List.mem_of_getElem? hx)⟩, fun j u hu => ?_⟩⟩
  have hj : j < n := by have := (List.getElem?_eq_some_iff.1 hu).1; rw [hn] at this; exact this
  have key : ∀ (l : List α) (i : Nat) (x : α), l[i]? = some x → (l.flatMap cells)[i * n + j]? = (cells x)[j]? := by
    intro l
    induction l with
    | nil => intro i x hx; simp at hx
    | cons y r ih =>
      intro i x hx
      rw [List.flatMap_cons]
      cases i with
      | zero =>
        simp at hx
        subst hx
        rw [Nat.zero_mul, Nat.zero_add, List.getElem?_append_left (by rw [hn]; exact hj)]
      | succ i =>
        simp at hx
        rw [List.getElem?_append_right (by rw [hn, Nat.succ_mul]; omega), hn, show (i + 1) * n + j - n = i * n + j by rw [Nat.succ_mul]; omega]
        exact ih i x hx
  have h1 := key l i x hx
  rw [hu] at h1
  show w.cell? ⟨g, 0 + i * n + j, none⟩ = some u
  rw [Nat.zero_add, h.cell, List.getElem?_toArray]
  exact h1
/-- A row of one trip. -/
theorem rds_trip {w : World} {g t c : Nat} {k : Int} {A : Option Addr} {l : List Stp} (h : Blk w g t #[.int .i64 k, .slice A l.length c]) (hk : I64n k) (hm : l.length ≤ maxLen) (hA : RdS cStp w w.heap.size A l) : RdS cTrp w w.heap.size (some ⟨g, 0, none⟩) [(k, l)] := by
  refine fun _ => ⟨g, 0, rfl, h.lt, fun i x hx => ?_⟩
  match i, hx with
  | 0, hx =>
    simp at hx
    subst hx
    refine ⟨_, ⟨A, c, rfl, hk, hm, hA⟩, fun j u hu => ?_⟩
    show w.cell? ⟨g, 0 + 0 * 2 + j, none⟩ = some u
    rw [Nat.zero_mul, Nat.zero_add, h.cell, List.getElem?_toArray]
    exact hu
  | i + 1, hx => simp at hx
/-- A row of one row of numbers. -/
theorem rds_row {w : World} {g t c : Nat} {A : Option Addr} {l : List Int} (h : Blk w g t #[.slice A l.length c]) (hm : l.length ≤ maxLen) (hA : RdS cI w w.heap.size A l) : RdS (cL cI) w w.heap.size (some ⟨g, 0, none⟩) [l] := by
  refine fun _ => ⟨g, 0, rfl, h.lt, fun i x hx => ?_⟩
  match i, hx with
  | 0, hx =>
    simp at hx
    subst hx
    refine ⟨_, ⟨A, c, rfl, hm, hA⟩, fun j u hu => ?_⟩
    show w.cell? ⟨g, 0 + 0 * 1 + j, none⟩ = some u
    rw [Nat.zero_mul, Nat.zero_add, h.cell, List.getElem?_toArray]
    exact hu
  | i + 1, hx => simp at hx
/-- A row of two numbers. -/
theorem rds_two {w : World} {g t : Nat} {a b : Int} (h : Blk w g t #[.int .i64 a, .int .i64 b]) (ha : I64n a) (hb : I64n b) : RdS cI w w.heap.size (some ⟨g, 0, none⟩) [a, b] := by
  refine fun _ => ⟨g, 0, rfl, h.lt, fun i x hx => ?_⟩
  match i, hx with
  | 0, hx =>
    simp at hx
    subst hx
    refine ⟨_, ⟨rfl, ha⟩, fun j u hu => ?_⟩
    show w.cell? ⟨g, 0 + 0 * 1 + j, none⟩ = some u
    match j, hu with
    | 0, hu => simp at hu; subst hu; rw [h.cell]; rfl
    | j + 1, hu => simp at hu
  | 1, hx =>
    simp at hx
    subst hx
    refine ⟨_, ⟨rfl, hb⟩, fun j u hu => ?_⟩
    show w.cell? ⟨g, 0 + 1 * 1 + j, none⟩ = some u
    match j, hu with
    | 0, hu => simp at hu; subst hu; rw [h.cell]; rfl
    | j + 1, hu => simp at hu
  | i + 2, hx => simp at hx
theorem i64_ok {n : Int} (h : -9223372036854775808 ≤ n ∧ n ≤ 9223372036854775807) : I64n n := h
def S7 : List Stp := [(0, 10, 20, 1), (1, 30, 5, 5)]
def S8 : List Stp := [(0, 10, 20, 1), (0, 30, 5, 5)]
def L7 : List Trp := [(7, S7)]
def L8 : List Trp := [(7, S8)]
def L9 : List Trp := [(7, [])]
def R2 : List Rte := [⟨bs [97], 0, 1, (none, 0, 0), (none, 0, 0), (none, 0, 0), 0, 20000, (none, 0, 0), (none, 0, 0), (none, 0, 0), (none, 0, 0), (none, 0, 0), (none, 0, 0)⟩, ⟨bs [98], 1, -1, (none, 0, 0), (none, 0, 0), (none, 0, 0), 0, 5000, (none, 0, 0), (none, 0, 0), (none, 0, 0), (none, 0, 0), (none, 0, 0), (none, 0, 0)⟩]
def Rr : Rte := ⟨ByteArray.empty, 0, 0, (none, 0, 0), (none, 0, 0), (none, 0, 0), 0, 20000, (none, 0, 0), (none, 0, 0), (none, 0, 0), (none, 0, 0), (none, 0, 0), (none, 0, 0)⟩
theorem stp_ok7 : ∀ x ∈ S7, Stp.ok x := by
  intro x hx
  simp [S7] at hx
  rcases hx with rfl | rfl <;> exact ⟨i64_ok (by decide), i64_ok (by decide), i64_ok (by decide), i64_ok (by decide)⟩
theorem stp_ok8 : ∀ x ∈ S8, Stp.ok x := by
  intro x hx
  simp [S8] at hx
  rcases hx with rfl | rfl <;> exact ⟨i64_ok (by decide), i64_ok (by decide), i64_ok (by decide), i64_ok (by decide)⟩
theorem rte_ok2 : ∀ x ∈ R2, Rte.ok x := by
  intro x hx
  simp [R2] at hx
  rcases hx with rfl | rfl <;> exact ⟨i64_ok (by decide), i64_ok (by decide)⟩
theorem chk7 : chk R2 L7 = 0 := by decide +kernel
theorem chk8 : chk R2 L8 = 10 := by decide +kernel
theorem chk9 : chk R2 L9 = 2 := by decide +kernel
theorem need1 : needOf 3000 2 20000 999 = 23 := by decide +kernel
theorem need2 : needOf 500 0 20000 1000 = 40 := by decide +kernel
theorem trip1 : tripOf L7 7 = 0 := by decide +kernel
theorem trip2 : tripOf L7 8 = -1 := by decide +kernel
theorem dly1 : delayOf L7 [[12, 31]] = (7, 0) := by decide +kernel
theorem dly2 : delayOf L7 [[9, 31]] = (0, 7) := by decide +kernel
theorem few7 : fewB L7 = true := by decide +kernel
theorem trip_lit (w : World) : Calls Try.prog 19 #[] w fun e w' => ∃ g1 g2 : Nat, e = .returned (.slice (some ⟨g2, 0, none⟩) 1 1) ∧ Blk w' g1 52 #[.int .i64 0, .int .i64 10, .int .i64 20, .int .i64 1, .int .i64 1, .int .i64 30, .int .i64 5, .int .i64 5] ∧ Blk w' g2 50 #[.int .i64 7, .slice (some ⟨g1, 0, none⟩) 2 2] ∧ w.heap.size ≤ g1 ∧ w.heap.size ≤ g2 ∧ ¬ g1 = g2 ∧ Below w.heap.size w w' := by
  go_enter Try.func19, Try.ntmps19
  go_wp2_with fail
  go_ret
  exact ⟨w.heap.size, w.heap.size + 1, rfl, (Blk.new _ _ _ _ rfl).alloc _, Blk.new _ _ _ _ (by simp), by omega, by omega, by omega, by (repeat' (first | (with_reducible exact Below.refl _ _) | (with_reducible assumption) | (with_reducible refine Below.drewN ?_ _) | (with_reducible refine Below.drew ?_) | (with_reducible refine Below.alloc ?_ ?_ _) | (with_reducible refine Below.setCell ?_ ?_ _) | (with_reducible exact Nat.le_refl _) | (with_reducible exact Below.size (by assumption)) | omega | (simp only [World.size_alloc, World.size_setCell, World.size_drew]; omega) | (simp; done) | (simp; omega)))⟩
set_option maxRecDepth 100000 in
theorem two_lit (w : World) : Calls Try.prog 20 #[] w fun e w' => ∃ g : Nat, e = .returned (.agg #[.slice (some ⟨g, 0, none⟩) 2 2, .slice none 0 0, .slice none 0 0, .int .i64 2, .int .i64 2]) ∧ Blk w' g 39 #[.string (bs [97]), .int .i64 0, .int .i64 1, .slice none 0 0, .slice none 0 0, .slice none 0 0, .int .i64 0, .int .i64 20000, .slice none 0 0, .slice none 0 0, .slice none 0 0, .slice none 0 0, .slice none 0 0, .slice none 0 0, .string (bs [98]), .int .i64 1, .int .i64 (-1), .slice none 0 0, .slice none 0 0, .slice none 0 0, .int .i64 0, .int .i64 5000, .slice none 0 0, .slice none 0 0, .slice none 0 0, .slice none 0 0, .slice none 0 0, .slice none 0 0] ∧ Below w.heap.size w w' := by
  go_enter Try.func20, Try.ntmps20
  go_wp2_with fail
  exact bodyPost_ret (v := .agg #[.slice (some ⟨w.heap.size + 1, 0, none⟩) 2 2, .slice none 0 0, .slice none 0 0, .int .i64 2, .int .i64 2]) (by simp [results, Try.results20, go_sem]) rfl ⟨w.heap.size + 1, rfl, Blk.new _ _ _ _ (by simp), by (repeat' (first | (with_reducible exact Below.refl _ _) | (with_reducible assumption) | (with_reducible refine Below.drewN ?_ _) | (with_reducible refine Below.drew ?_) | (with_reducible refine Below.alloc ?_ ?_ _) | (with_reducible refine Below.setCell ?_ ?_ _) | (with_reducible exact Nat.le_refl _) | (with_reducible exact Below.size (by assumption)) | omega | (simp only [World.size_alloc, World.size_setCell, World.size_drew]; omega) | (simp; done) | (simp; omega)))⟩
theorem rds_R2 {w : World} {g : Nat} (h : Blk w g 39 #[.string (bs [97]), .int .i64 0, .int .i64 1, .slice none 0 0, .slice none 0 0, .slice none 0 0, .int .i64 0, .int .i64 20000, .slice none 0 0, .slice none 0 0, .slice none 0 0, .slice none 0 0, .slice none 0 0, .slice none 0 0, .string (bs [98]), .int .i64 1, .int .i64 (-1), .slice none 0 0, .slice none 0 0, .slice none 0 0, .int .i64 0, .int .i64 5000, .slice none 0 0, .slice none 0 0, .slice none 0 0, .slice none 0 0, .slice none 0 0, .slice none 0 0]) : RdS cRte w w.heap.size (some ⟨g, 0, none⟩) R2 := rds_blk (l := R2) h rte_ok2
structure AlvI (w wk : World) : Prop where
  box : Blk wk w.heap.size 39 #[.string ByteArray.empty, .int .i64 0, .int .i64 0, .slice none 0 0, .slice none 0 0, .slice none 0 0, .int .i64 0, .int .i64 20000, .slice none 0 0, .slice none 0 0, .slice none 0 0, .slice none 0 0, .slice none 0 0, .slice none 0 0]
  below : Below w.heap.size w wk
  size : w.heap.size < wk.heap.size
theorem AlvI.step {w w1 w2 : World} (h : AlvI w w1) (hb : Below w1.heap.size w1 w2) : AlvI w w2 := ⟨h.box.now hb, bel_two h.below (Nat.le_refl _) hb, Nat.lt_of_lt_of_le h.size hb.size⟩
theorem ma : (1 : Nat) ≤ 9223372036854775807 := by decide
set_option maxRecDepth 100000 in
set_option maxHeartbeats 8000000 in
theorem alive48 (w : World) : Calls Try.prog 9 #[] w fun e w' => e = .returned (.bool true) ∧ Below w.heap.size w w' := by
  have hI0 : AlvI w (w.alloc (.cells #[.string ByteArray.empty, .int .i64 0, .int .i64 0, .slice none 0 0, .slice none 0 0, .slice none 0 0, .int .i64 0, .int .i64 20000, .slice none 0 0, .slice none 0 0, .slice none 0 0, .slice none 0 0, .slice none 0 0, .slice none 0 0] 39)) := ⟨Blk.new _ _ _ _ rfl, (Below.refl _ _).alloc (Nat.le_refl _) _, by simp⟩
  go_enter Try.func9, Try.ntmps9
  go_wp2_with fail
  refine (trip_lit _).mono ?_
  rintro e w1 ⟨g1, g2, rfl, hg1, hg2, lg1, lg2, ng, hb⟩
  have hI1 := hI0.step hb
  have hs1 := hI0.size
  clear hI0 hb
  have hbx : Below w1.heap.size w1 ((w1.alloc (.cells #[.int .i64 12, .int .i64 31] 3)).alloc (.cells #[.slice (some ⟨w1.heap.size, 0, none⟩) 2 2] 23)) := ((Below.refl _ _).alloc (Nat.le_refl _) _).alloc (by simp) _
  have hA1 : RdS cTrp ((w1.alloc (.cells #[.int .i64 12, .int .i64 31] 3)).alloc (.cells #[.slice (some ⟨w1.heap.size, 0, none⟩) 2 2] 23)) ((w1.alloc (.cells #[.int .i64 12, .int .i64 31] 3)).alloc (.cells #[.slice (some ⟨w1.heap.size, 0, none⟩) 2 2] 23)).heap.size (some ⟨g2, 0, none⟩) L7 := rds_trip (l := S7) (hg2.now hbx) (i64_ok (by decide)) (by decide) (rds_blk (l := S7) (hg1.now hbx) stp_ok7)
  have hA2 : RdS (cL cI) ((w1.alloc (.cells #[.int .i64 12, .int .i64 31] 3)).alloc (.cells #[.slice (some ⟨w1.heap.size, 0, none⟩) 2 2] 23)) ((w1.alloc (.cells #[.int .i64 12, .int .i64 31] 3)).alloc (.cells #[.slice (some ⟨w1.heap.size, 0, none⟩) 2 2] 23)).heap.size (some ⟨w1.heap.size + 1, 0, none⟩) [[12, 31]] := rds_row (l := [12, 31]) (Blk.new _ _ _ _ (by simp)) (by decide) (rds_two ((Blk.new _ _ _ _ rfl).alloc _) (i64_ok (by decide)) (i64_ok (by decide)))
  have HA1 := Lib.hid hA1
  have HA2 := Lib.hid hA2
  clear hA1 hA2
  go_wp2_with fail
  refine (delay_any L7 (some ⟨g2, 0, none⟩) 1 [[12, 31]] (some ⟨w1.heap.size + 1, 0, none⟩) 1 _ few7 ma HA1.out HA2.out).mono ?_
  rw [dly1]
  rintro e w2 ⟨rfl, hb⟩
  have hI2 := (hI1.step hbx).step hb
  clear hI1 hb hbx HA1 HA2 hg1 hg2 lg1 lg2 ng
  go_wp2_with fail
  refine (trip_lit _).mono ?_
  rintro e w3 ⟨g1, g2, rfl, hg1, hg2, lg1, lg2, ng, hb⟩
  have hI3 := hI2.step hb
  have hs3 := hI2.size
  clear hI2 hb
  have hbx : Below w3.heap.size w3 ((w3.alloc (.cells #[.int .i64 9, .int .i64 31] 3)).alloc (.cells #[.slice (some ⟨w3.heap.size, 0, none⟩) 2 2] 23)) := ((Below.refl _ _).alloc (Nat.le_refl _) _).alloc (by simp) _
  have hA1 : RdS cTrp ((w3.alloc (.cells #[.int .i64 9, .int .i64 31] 3)).alloc (.cells #[.slice (some ⟨w3.heap.size, 0, none⟩) 2 2] 23)) ((w3.alloc (.cells #[.int .i64 9, .int .i64 31] 3)).alloc (.cells #[.slice (some ⟨w3.heap.size, 0, none⟩) 2 2] 23)).heap.size (some ⟨g2, 0, none⟩) L7 := rds_trip (l := S7) (hg2.now hbx) (i64_ok (by decide)) (by decide) (rds_blk (l := S7) (hg1.now hbx) stp_ok7)
  have hA2 : RdS (cL cI) ((w3.alloc (.cells #[.int .i64 9, .int .i64 31] 3)).alloc (.cells #[.slice (some ⟨w3.heap.size, 0, none⟩) 2 2] 23)) ((w3.alloc (.cells #[.int .i64 9, .int .i64 31] 3)).alloc (.cells #[.slice (some ⟨w3.heap.size, 0, none⟩) 2 2] 23)).heap.size (some ⟨w3.heap.size + 1, 0, none⟩) [[9, 31]] := rds_row (l := [9, 31]) (Blk.new _ _ _ _ (by simp)) (by decide) (rds_two ((Blk.new _ _ _ _ rfl).alloc _) (i64_ok (by decide)) (i64_ok (by decide)))
  have HA1 := Lib.hid hA1
  have HA2 := Lib.hid hA2
  clear hA1 hA2
  go_wp2_with fail
  refine (delay_any L7 (some ⟨g2, 0, none⟩) 1 [[9, 31]] (some ⟨w3.heap.size + 1, 0, none⟩) 1 _ few7 ma HA1.out HA2.out).mono ?_
  rw [dly2]
  rintro e w4 ⟨rfl, hb⟩
  have hI4 := (hI3.step hbx).step hb
  clear hI3 hb hbx HA1 HA2 hg1 hg2 lg1 lg2 ng
  go_wp2_with fail
  refine (trip_lit _).mono ?_
  rintro e w5 ⟨q1, q2, rfl, hq1, hq2, lq1, lq2, nq, hb⟩
  have hI5 := hI4.step hb
  have hs5 := hI4.size
  clear hI4 hb
  have k1 := hq2.cell 1
  have k4 := hq1.cell 4
  have f4 := hq1.free 4
  simp only [List.getElem?_toArray, List.getElem?_cons_succ, List.getElem?_cons_zero] at k1 k4
  have hq1' : Blk (w5.setCell ⟨q1, 4, none⟩ (.int .i64 0)) q1 52 #[.int .i64 0, .int .i64 10, .int .i64 20, .int .i64 1, .int .i64 0, .int .i64 30, .int .i64 5, .int .i64 5] := hq1.set 4 (.int .i64 0)
  have hq2' : Blk (w5.setCell ⟨q1, 4, none⟩ (.int .i64 0)) q2 50 #[.int .i64 7, .slice (some ⟨q1, 0, none⟩) 2 2] := hq2.far (by simpa using Ne.symm nq) _
  have hI6 : AlvI w (w5.setCell ⟨q1, 4, none⟩ (.int .i64 0)) := ⟨hI5.box.far (by simp; omega) _, hI5.below.setCell (by simp; omega) _, by simp [World.setCell]; exact hI5.size⟩
  have HQ1 := Lib.hid hq1'
  have HQ2 := Lib.hid hq2'
  clear hq1' hq2' hq1 hq2
  go_wp2_with fail
  clear k1 k4 f4
  generalize (w5.setCell ⟨q1, 4, none⟩ (.int .i64 0)) = w6 at *
  clear hI5 lq1 lq2
  refine (two_lit _).mono ?_
  rintro e w7 ⟨r, rfl, hr, hb⟩
  have hI7 := hI6.step hb
  have HQ1' := Lib.hid (HQ1.out.now hb)
  have HQ2' := Lib.hid (HQ2.out.now hb)
  clear HQ1 HQ2
  have HQ1 := HQ1'
  have HQ2 := HQ2'
  clear HQ1' HQ2'
  clear hI6 hb
  go_wp2_with fail
  refine (trip_lit _).mono ?_
  rintro e w8 ⟨g1, g2, rfl, hg1, hg2, lg1, lg2, ng, hb⟩
  have hI8 := hI7.step hb
  have hr' := hr.now hb
  clear hr
  have hr := hr'
  clear hr'
  have HQ1' := Lib.hid (HQ1.out.now hb)
  have HQ2' := Lib.hid (HQ2.out.now hb)
  clear HQ1 HQ2
  have HQ1 := HQ1'
  have HQ2 := HQ2'
  clear HQ1' HQ2'
  clear hI7 hb
  go_wp2_with fail
  have HR1 := Lib.hid (rds_R2 hr)
  have HR2 := Lib.hid (rds_trip (l := S7) hg2 (i64_ok (by decide)) (by decide) (rds_blk (l := S7) hg1 stp_ok7))
  refine (check_any R2 (some ⟨r, 0, none⟩) 2 (none, 0, 0) (none, 0, 0) 2 2 L7 (some ⟨g2, 0, none⟩) 1 _ (by decide) (by decide) (by decide) HR1.out HR2.out).mono ?_
  rw [chk7]
  rintro e w9 ⟨rfl, hb⟩
  have hI9 := hI8.step hb
  have HQ1' := Lib.hid (HQ1.out.now hb)
  have HQ2' := Lib.hid (HQ2.out.now hb)
  clear HQ1 HQ2
  have HQ1 := HQ1'
  have HQ2 := HQ2'
  clear HQ1' HQ2'
  clear hI8 hb
  go_wp2_with fail
  clear HR1 HR2 hr hg1 hg2 lg1 lg2 ng
  refine (two_lit _).mono ?_
  rintro e w10 ⟨r, rfl, hr, hb⟩
  have hI10 := hI9.step hb
  have HQ1' := Lib.hid (HQ1.out.now hb)
  have HQ2' := Lib.hid (HQ2.out.now hb)
  clear HQ1 HQ2
  have HQ1 := HQ1'
  have HQ2 := HQ2'
  clear HQ1' HQ2'
  clear hI9 hb
  go_wp2_with fail
  have HR1 := Lib.hid (rds_R2 hr)
  have HR2 := Lib.hid (rds_trip (l := S8) HQ2.out (i64_ok (by decide)) (by decide) (rds_blk (l := S8) HQ1.out stp_ok8))
  refine (check_any R2 (some ⟨r, 0, none⟩) 2 (none, 0, 0) (none, 0, 0) 2 2 L8 (some ⟨q2, 0, none⟩) 1 _ (by decide) (by decide) (by decide) HR1.out HR2.out).mono ?_
  rw [chk8]
  rintro e w11 ⟨rfl, hb⟩
  have hI11 := hI10.step hb
  have HQ1' := Lib.hid (HQ1.out.now hb)
  have HQ2' := Lib.hid (HQ2.out.now hb)
  clear HQ1 HQ2
  have HQ1 := HQ1'
  have HQ2 := HQ2'
  clear HQ1' HQ2'
  clear hI10 hb
  go_wp2_with fail
  clear HR1 HR2 hr HQ1 HQ2
  refine (two_lit _).mono ?_
  rintro e w12 ⟨r, rfl, hr, hb⟩
  have hI12 := hI11.step hb
  clear hI11 hb
  go_wp2_with fail
  have hbx : Below w12.heap.size w12 (w12.alloc (.cells #[.int .i64 7, .slice none 0 0] 50)) := (Below.refl _ _).alloc (Nat.le_refl _) _
  have hr' := hr.now hbx
  have HR1 := Lib.hid (rds_R2 hr')
  have HR2 := Lib.hid (rds_trip (w := (w12.alloc (.cells #[.int .i64 7, .slice none 0 0] 50))) (g := w12.heap.size) (t := 50) (c := 0) (A := none) (l := []) (Blk.new _ _ _ _ rfl) (i64_ok (by decide)) (by decide) (RdS.nil _ _ _ _))
  refine (check_any R2 (some ⟨r, 0, none⟩) 2 (none, 0, 0) (none, 0, 0) 2 2 L9 (some ⟨w12.heap.size, 0, none⟩) 1 _ (by decide) (by decide) (by decide) HR1.out HR2.out).mono ?_
  rw [chk9]
  rintro e w13 ⟨rfl, hb⟩
  have hI13 := (hI12.step hbx).step hb
  clear hI12 hb hbx HR1 HR2 hr hr'
  have y0 := hI13.box.cell 0
  have y1 := hI13.box.cell 1
  have y2 := hI13.box.cell 2
  have y3 := hI13.box.cell 3
  have y4 := hI13.box.cell 4
  have y5 := hI13.box.cell 5
  have y6 := hI13.box.cell 6
  have y7 := hI13.box.cell 7
  have y8 := hI13.box.cell 8
  have y9 := hI13.box.cell 9
  have y10 := hI13.box.cell 10
  have y11 := hI13.box.cell 11
  have y12 := hI13.box.cell 12
  have y13 := hI13.box.cell 13
  simp only [List.getElem?_toArray, List.getElem?_cons_succ, List.getElem?_cons_zero] at y0 y1 y2 y3 y4 y5 y6 y7 y8 y9 y10 y11 y12 y13
  go_wp2_with fail
  refine (need_any Rr (0, ByteArray.empty, 0, 0, 0, 0, 0, 0) 3000 2 999 _ (i64_ok (by decide)) (i64_ok (by decide)) (i64_ok (by decide)) (i64_ok (by decide))).mono ?_
  rw [show Rr.len = 20000 from rfl, need1]
  rintro e w14 ⟨rfl, hb⟩
  have hI14 := hI13.step hb
  clear hI13 hb y0 y1 y2 y3 y4 y5 y6 y7 y8 y9 y10 y11 y12 y13
  have y0 := hI14.box.cell 0
  have y1 := hI14.box.cell 1
  have y2 := hI14.box.cell 2
  have y3 := hI14.box.cell 3
  have y4 := hI14.box.cell 4
  have y5 := hI14.box.cell 5
  have y6 := hI14.box.cell 6
  have y7 := hI14.box.cell 7
  have y8 := hI14.box.cell 8
  have y9 := hI14.box.cell 9
  have y10 := hI14.box.cell 10
  have y11 := hI14.box.cell 11
  have y12 := hI14.box.cell 12
  have y13 := hI14.box.cell 13
  simp only [List.getElem?_toArray, List.getElem?_cons_succ, List.getElem?_cons_zero] at y0 y1 y2 y3 y4 y5 y6 y7 y8 y9 y10 y11 y12 y13
  go_wp2_with fail
  refine (need_any Rr (0, ByteArray.empty, 0, 0, 0, 0, 0, 0) 500 0 1000 _ (i64_ok (by decide)) (i64_ok (by decide)) (i64_ok (by decide)) (i64_ok (by decide))).mono ?_
  rw [show Rr.len = 20000 from rfl, need2]
  rintro e w15 ⟨rfl, hb⟩
  have hI15 := hI14.step hb
  clear hI14 hb y0 y1 y2 y3 y4 y5 y6 y7 y8 y9 y10 y11 y12 y13
  go_wp2_with fail
  refine (two_lit _).mono ?_
  rintro e w16 ⟨r, rfl, hr, hb⟩
  have hI16 := hI15.step hb
  clear hI15 hb
  go_wp2_with fail
  refine (trip_lit _).mono ?_
  rintro e w17 ⟨g1, g2, rfl, hg1, hg2, lg1, lg2, ng, hb⟩
  have hI17 := hI16.step hb
  have hr' := hr.now hb
  clear hr
  have hr := hr'
  clear hr'
  clear hI16 hb
  go_wp2_with fail
  have HR2 := Lib.hid (rds_trip (l := S7) hg2 (i64_ok (by decide)) (by decide) (rds_blk (l := S7) hg1 stp_ok7))
  refine (trip_any L7 (some ⟨g2, 0, none⟩) 1 7 R2 (some ⟨r, 0, none⟩) 2 (none, 0, 0) (none, 0, 0) 2 2 _ (by decide) HR2.out).mono ?_
  rw [trip1]
  rintro e w18 ⟨rfl, hb⟩
  have hI18 := hI17.step hb
  clear hI17 hb
  go_wp2_with fail
  clear HR2 hr hg1 hg2 lg1 lg2 ng
  refine (two_lit _).mono ?_
  rintro e w19 ⟨r, rfl, hr, hb⟩
  have hI19 := hI18.step hb
  clear hI18 hb
  go_wp2_with fail
  refine (trip_lit _).mono ?_
  rintro e w20 ⟨g1, g2, rfl, hg1, hg2, lg1, lg2, ng, hb⟩
  have hI20 := hI19.step hb
  have hr' := hr.now hb
  clear hr
  have hr := hr'
  clear hr'
  clear hI19 hb
  go_wp2_with fail
  have HR2 := Lib.hid (rds_trip (l := S7) hg2 (i64_ok (by decide)) (by decide) (rds_blk (l := S7) hg1 stp_ok7))
  refine (trip_any L7 (some ⟨g2, 0, none⟩) 1 8 R2 (some ⟨r, 0, none⟩) 2 (none, 0, 0) (none, 0, 0) 2 2 _ (by decide) HR2.out).mono ?_
  rw [trip2]
  rintro e w21 ⟨rfl, hb⟩
  have hI21 := hI20.step hb
  clear hI20 hb
  go_wp2_with fail
  clear HR2 hr hg1 hg2 lg1 lg2 ng
  go_ret
  exact ⟨by simp, hI21.below⟩
end Go.Proofs.Ytaedelcbioiogaa
