/- The walks of form, follows, add. -/
import Derived.Test.YtopoknocfoiiaaaGreatDoorPlPrintB
namespace Go.Proofs.YtopoknocfoiiaaaGreatDoor
set_option linter.unusedVariables false
set_option linter.unusedSimpArgs false
open Go.RowKit
attribute [local go_sem] bs_size bs_get bs_append bs_extract bs_toList
attribute [-go_sem] run_equalIn_agg
theorem ret_form {a b : Int} {x y : List UInt8} (h : a = b) (h2 : x = y) : Ending.returned (.tuple #[.int .i64 a, .string (bs x)]) = .returned (.tuple #[.int .i64 b, .string (bs y)]) := by rw [h, h2]
set_option maxHeartbeats 4000000 in
theorem form_any (s : List UInt8) (w : World) : Calls Tryz.prog 47 #[.string (bs s)] w fun e w' => e = .returned (.tuple #[.int .i64 (placeF s), .string (bs (formF s))]) ∧ w = w' := by
  have HPF : Hid (placeF s = if s = layoutW then 0 else if s = sectionW then 1 else if s = trackW ∨ s = crossW ∨ s = pointsW then 2 else if s = jointW then 3 else if s = signalW then 4 else if s = baliseW then 5 else -1) := Lib.hid rfl
  have HFF : Hid (formF s = if s = layoutW ∨ s = sectionW then [110] else if s = trackW ∨ s = crossW then [110, 115, 105, 105, 105] else if s = pointsW then [110, 115, 105, 105, 105, 105] else if s = jointW then [101, 105, 101, 105] else if s = signalW then [110, 101, 105, 105] else if s = baliseW then [105, 101, 105] else []) := Lib.hid rfl
  by_cases h1 : s = layoutW
  · subst h1
    go_enter Tryz.func47, Tryz.ntmps47
    go_wp2_with fail
    go_ret2
    exact ⟨ret_form rfl rfl, rfl⟩
  by_cases h2 : s = sectionW
  · subst h2
    go_enter Tryz.func47, Tryz.ntmps47
    go_wp2_with fail
    go_ret2
    exact ⟨ret_form rfl rfl, rfl⟩
  by_cases h3 : s = trackW
  · subst h3
    go_enter Tryz.func47, Tryz.ntmps47
    go_wp2_with fail
    go_ret2
    exact ⟨ret_form rfl rfl, rfl⟩
  by_cases h4 : s = crossW
  · subst h4
    go_enter Tryz.func47, Tryz.ntmps47
    go_wp2_with fail
    go_ret2
    exact ⟨ret_form rfl rfl, rfl⟩
  by_cases h5 : s = pointsW
  · subst h5
    go_enter Tryz.func47, Tryz.ntmps47
    go_wp2_with fail
    go_ret2
    exact ⟨ret_form rfl rfl, rfl⟩
  by_cases h6 : s = jointW
  · subst h6
    go_enter Tryz.func47, Tryz.ntmps47
    go_wp2_with fail
    go_ret2
    exact ⟨ret_form rfl rfl, rfl⟩
  by_cases h7 : s = signalW
  · subst h7
    go_enter Tryz.func47, Tryz.ntmps47
    go_wp2_with fail
    go_ret2
    exact ⟨ret_form rfl rfl, rfl⟩
  by_cases h8 : s = baliseW
  · subst h8
    go_enter Tryz.func47, Tryz.ntmps47
    go_wp2_with fail
    go_ret2
    exact ⟨ret_form rfl rfl, rfl⟩
  have e1 : placeF s = -1 := by rw [HPF.out]; simp [h1, h2, h3, h4, h5, h6, h7, h8]
  have e2 : formF s = [] := by rw [HFF.out]; simp [h1, h2, h3, h4, h5, h6, h7, h8]
  have E1 := Lib.hid e1
  have E2 := Lib.hid e2
  have b1 : (s == [108, 97, 121, 111, 117, 116]) = false := by rw [beq_eq_false_iff_ne]; exact h1
  have b2 : (s == [115, 101, 99, 116, 105, 111, 110]) = false := by rw [beq_eq_false_iff_ne]; exact h2
  have b3 : (s == [116, 114, 97, 99, 107]) = false := by rw [beq_eq_false_iff_ne]; exact h3
  have b4 : (s == [99, 114, 111, 115, 115]) = false := by rw [beq_eq_false_iff_ne]; exact h4
  have b5 : (s == [112, 111, 105, 110, 116, 115]) = false := by rw [beq_eq_false_iff_ne]; exact h5
  have b6 : (s == [106, 111, 105, 110, 116]) = false := by rw [beq_eq_false_iff_ne]; exact h6
  have b7 : (s == [115, 105, 103, 110, 97, 108]) = false := by rw [beq_eq_false_iff_ne]; exact h7
  have b8 : (s == [98, 97, 108, 105, 115, 101]) = false := by rw [beq_eq_false_iff_ne]; exact h8
  clear h1 h2 h3 h4 h5 h6 h7 h8 e1 e2
  go_enter Tryz.func47, Tryz.ntmps47
  go_wp2_with fail
  go_ret2
  exact ⟨ret_form E1.out.symm E2.out.symm, rfl⟩
theorem follows_any (g : Nat) (p q : Int) (w : World) (hc : w.cell? ⟨g, 6, none⟩ = some (.int .i64 p)) : Calls Tryz.prog 48 #[.pointer (some ⟨g, 0, none⟩), .int .i64 q] w fun e w' => e = .returned (.bool (follB p q)) ∧ w = w' := by
  have HF : Hid (follB p q = if p < 0 ∨ q = 0 then decide (p < 0) && decide (q = 0) else decide (p ≤ q)) := Lib.hid rfl
  by_cases h1 : p < 0
  · have HX : Hid (follB p q = decide (q = 0)) := Lib.hid (by rw [HF.out, if_pos (Or.inl h1)]; simp [h1])
    go_enter Tryz.func48, Tryz.ntmps48
    go_wp2_with fail
    all_goals (go_ret; exact ⟨ret_b (by first | (rw [HX.out]; done) | (rw [HX.out, Bool.eq_iff_iff]; simp)), rfl⟩)
  · by_cases h2 : q = 0
    · subst h2
      have HX : Hid (follB p 0 = false) := Lib.hid (by rw [HF.out, if_pos (Or.inr rfl)]; simp [h1])
      go_enter Tryz.func48, Tryz.ntmps48
      go_wp2_with fail
      all_goals (go_ret; exact ⟨ret_b (by rw [HX.out]), rfl⟩)
    · have HX : Hid (follB p q = decide (p ≤ q)) := Lib.hid (by rw [HF.out, if_neg (by omega)])
      have hqb : (q == 0) = false := by simp [h2]
      clear h2
      go_enter Tryz.func48, Tryz.ntmps48
      go_wp2_with fail
      all_goals (go_ret; exact ⟨ret_b (by first | (rw [HX.out]; done) | (rw [HX.out, Bool.eq_iff_iff]; simp)), rfl⟩)
/-! ### What the reader holds -/
/-- The reader's box in block g, whose lists are rows of the call's own behind it. -/
structure RW (w : World) (g : Nat) (l : Lay) (p : Int) (v1 v2 v3 v4 v5 : Value) : Prop where
  blk : Blk w g 59 #[.string (bs l.name), v1, v2, v3, v4, v5, .int .i64 p]
  r1 : OwnR cS w (g + 1) 9 v1 l.secs 0
  r2 : OwnR cE w (g + 1) 35 v2 l.els 0
  r3 : OwnR cJ w (g + 1) 39 v3 l.jts 0
  r4 : OwnR cSg w (g + 1) 41 v4 l.sgs 0
  r5 : OwnR cBl w (g + 1) 51 v5 l.bls 0
def RWS (w : World) (g : Nat) (l : Lay) (p : Int) : Prop := ∃ v1 v2 v3 v4 v5, RW w g l p v1 v2 v3 v4 v5
section
variable {w w' : World} {g : Nat} {l : Lay} {p : Int} {v1 v2 v3 v4 v5 : Value}
theorem RW.now (h : RW w g l p v1 v2 v3 v4 v5) (hb : Below w.heap.size w w') : RW w' g l p v1 v2 v3 v4 v5 := ⟨h.blk.now hb, h.r1.now hb, h.r2.now hb, h.r3.now hb, h.r4.now hb, h.r5.now hb⟩
theorem RW.alloc (h : RW w g l p v1 v2 v3 v4 v5) (o : Obj) : RW (w.alloc o) g l p v1 v2 v3 v4 v5 := h.now ((Below.refl _ _).alloc (Nat.le_refl _) o)
theorem RW.drew (h : RW w g l p v1 v2 v3 v4 v5) : RW w.drew g l p v1 v2 v3 v4 v5 := h.now (Below.refl _ _).drew
theorem RW.x0 (h : RW w g l p v1 v2 v3 v4 v5) : w.cell? ⟨g, 0, none⟩ = some (.string (bs l.name)) := h.blk.cell 0
theorem RW.x1 (h : RW w g l p v1 v2 v3 v4 v5) : w.cell? ⟨g, 1, none⟩ = some v1 := h.blk.cell 1
theorem RW.x2 (h : RW w g l p v1 v2 v3 v4 v5) : w.cell? ⟨g, 2, none⟩ = some v2 := h.blk.cell 2
theorem RW.x3 (h : RW w g l p v1 v2 v3 v4 v5) : w.cell? ⟨g, 3, none⟩ = some v3 := h.blk.cell 3
theorem RW.x4 (h : RW w g l p v1 v2 v3 v4 v5) : w.cell? ⟨g, 4, none⟩ = some v4 := h.blk.cell 4
theorem RW.x5 (h : RW w g l p v1 v2 v3 v4 v5) : w.cell? ⟨g, 5, none⟩ = some v5 := h.blk.cell 5
theorem RW.x6 (h : RW w g l p v1 v2 v3 v4 v5) : w.cell? ⟨g, 6, none⟩ = some (.int .i64 p) := h.blk.cell 6
theorem RW.free (h : RW w g l p v1 v2 v3 v4 v5) (i : Nat) : w.frozen? ⟨g, i, none⟩ = false := h.blk.free i
/-- The lists, once their shapes are known, make the layout a value. -/
theorem RW.lv (h : RW w g l p v1 v2 v3 v4 v5) (hn : l.name.length ≤ maxLen) : ∃ v : LV, v.l = l ∧ LvR w v ∧ v1 = .slice v.A1 v.l.secs.length v.c1 ∧ v2 = .slice v.A2 v.l.els.length v.c2 ∧ v3 = .slice v.A3 v.l.jts.length v.c3 ∧ v4 = .slice v.A4 v.l.sgs.length v.c4 ∧ v5 = .slice v.A5 v.l.bls.length v.c5 := by
  obtain ⟨A1, c1, rfl, m1, r1⟩ := h.r1.reads2
  obtain ⟨A2, c2, rfl, m2, r2⟩ := h.r2.reads2
  obtain ⟨A3, c3, rfl, m3, r3⟩ := h.r3.reads2
  obtain ⟨A4, c4, rfl, m4, r4⟩ := h.r4.reads2
  obtain ⟨A5, c5, rfl, m5, r5⟩ := h.r5.reads2
  exact ⟨⟨l, A1, A2, A3, A4, A5, c1, c2, c3, c4, c5⟩, rfl, ⟨hn, r1, r2, r3, r4, r5, m1, m2, m3, m4, m5⟩, rfl, rfl, rfl, rfl, rfl⟩
end
end Go.Proofs.YtopoknocfoiiaaaGreatDoor
