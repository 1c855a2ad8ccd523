/- The chapter's examples hold: the walk. -/
import Derived.Test.YtopoknocfoiiaaaGreatDoorPlAliveP
import Derived.Test.YtopoknocfoiiaaaGreatDoorPlParseB
import Derived.Test.YtopoknocfoiiaaaGreatDoorPlSame
import Derived.Test.YtopoknocfoiiaaaGreatDoorPlPrint
namespace Go.Proofs.YtopoknocfoiiaaaGreatDoor
set_option linter.unusedVariables false
set_option linter.unusedSimpArgs false
open Go.RowKit
attribute [local go_sem] bs_size bs_get bs_append bs_extract bs_toList
attribute [-go_sem] run_equalIn_agg
theorem text_any (w : World) : Calls Tryz.prog 9 #[] w fun e w' => e = .returned (.string (bs txE)) ∧ w = w' := by
  go_enter Tryz.func9, Tryz.ntmps9
  go_wp2_with fail
  go_ret
  exact ⟨by unfold txE; rfl, rfl⟩
theorem rds_blk {α : Type} {c : Cod α} {w : World} {S : Nat → Prop} {g : Nat} {t : TypeId} {cs : List Value} {l : List α} (hb : Blk w g t cs.toArray) (h : RdC c w S cs l) (hS : S g) : RdS c w S (some ⟨g, 0, none⟩) l := by
  intro hl
  refine ⟨g, 0, rfl, hS, fun i x hx => ?_⟩
  obtain ⟨ys, h4, h5⟩ := h.get hx
  exact ⟨ys, h4, fun j u hu => by
    rw [hb.cell, Nat.zero_add]
    simpa using h5 j u hu⟩
/-- The example as a value. -/
def lvE (g : Nat) : LV := ⟨exE, some ⟨g, 0, none⟩, some ⟨g + 1, 0, none⟩, some ⟨g + 2, 0, none⟩, some ⟨g + 3, 0, none⟩, none, 2, 2, 1, 1, 0⟩
/-- What holds of the example once it is laid. -/
structure AlE (w wr : World) : Prop where
  bel : Below w.heap.size w wr
  rd : LvR wr (lvE w.heap.size)
  blk : Blk wr (w.heap.size + 1 + 1 + 1 + 1) 28 #[.string { data := #[108, 105, 110, 101] }, .slice (some ⟨w.heap.size, 0, none⟩) 2 2, .slice (some ⟨w.heap.size + 1, 0, none⟩) 2 2, .slice (some ⟨w.heap.size + 1 + 1, 0, none⟩) 1 1, .slice (some ⟨w.heap.size + 1 + 1 + 1, 0, none⟩) 1 1, .slice none 0 0]
theorem AlE.now {w wr w' : World} (h : AlE w wr) (hb : Below wr.heap.size wr w') : AlE w w' := ⟨bel_then h.bel h.bel.size hb, h.rd.now hb, h.blk.now hb⟩
theorem s_ok {s : List UInt8} (h : s.length ≤ 100) : s.length ≤ maxLen := by unfold maxLen; omega
theorem i_ok {n : Int} (h : 0 ≤ n) (h2 : n ≤ 100000) : I64n n := by unfold I64n; omega
theorem AlE.start (w : World) : AlE w (((((w.alloc (.cells #[.string { data := #[97] }, .string { data := #[98] }] 9)).alloc (.cells #[.string { data := #[97] }, .int .i64 1, .int .i64 20000, .int .i64 0, .int .i64 1000, .int .i64 0, .int .i64 0, .string { data := #[98] }, .int .i64 1, .int .i64 20000, .int .i64 0, .int .i64 1000, .int .i64 0, .int .i64 1] 35)).alloc (.cells #[.int .i64 0, .int .i64 1, .int .i64 1, .int .i64 0] 39)).alloc (.cells #[.string { data := #[115, 49] }, .int .i64 0, .int .i64 1, .int .i64 0] 41)).alloc (.cells #[.string { data := #[108, 105, 110, 101] }, .slice (some ⟨w.heap.size, 0, none⟩) 2 2, .slice (some ⟨w.heap.size + 1, 0, none⟩) 2 2, .slice (some ⟨w.heap.size + 1 + 1, 0, none⟩) 1 1, .slice (some ⟨w.heap.size + 1 + 1 + 1, 0, none⟩) 1 1, .slice none 0 0] 28)) := by
  have b1 := (Below.refl w.heap.size w).alloc (Nat.le_refl _) (.cells #[.string { data := #[97] }, .string { data := #[98] }] 9)
  have b2 := b1.alloc b1.size (.cells #[.string { data := #[97] }, .int .i64 1, .int .i64 20000, .int .i64 0, .int .i64 1000, .int .i64 0, .int .i64 0, .string { data := #[98] }, .int .i64 1, .int .i64 20000, .int .i64 0, .int .i64 1000, .int .i64 0, .int .i64 1] 35)
  have b3 := b2.alloc b2.size (.cells #[.int .i64 0, .int .i64 1, .int .i64 1, .int .i64 0] 39)
  have b4 := b3.alloc b3.size (.cells #[.string { data := #[115, 49] }, .int .i64 0, .int .i64 1, .int .i64 0] 41)
  have b5 := b4.alloc b4.size (.cells #[.string { data := #[108, 105, 110, 101] }, .slice (some ⟨w.heap.size, 0, none⟩) 2 2, .slice (some ⟨w.heap.size + 1, 0, none⟩) 2 2, .slice (some ⟨w.heap.size + 1 + 1, 0, none⟩) 1 1, .slice (some ⟨w.heap.size + 1 + 1 + 1, 0, none⟩) 1 1, .slice none 0 0] 28)
  have k0 : Blk (((((w.alloc (.cells #[.string { data := #[97] }, .string { data := #[98] }] 9)).alloc (.cells #[.string { data := #[97] }, .int .i64 1, .int .i64 20000, .int .i64 0, .int .i64 1000, .int .i64 0, .int .i64 0, .string { data := #[98] }, .int .i64 1, .int .i64 20000, .int .i64 0, .int .i64 1000, .int .i64 0, .int .i64 1] 35)).alloc (.cells #[.int .i64 0, .int .i64 1, .int .i64 1, .int .i64 0] 39)).alloc (.cells #[.string { data := #[115, 49] }, .int .i64 0, .int .i64 1, .int .i64 0] 41)).alloc (.cells #[.string { data := #[108, 105, 110, 101] }, .slice (some ⟨w.heap.size, 0, none⟩) 2 2, .slice (some ⟨w.heap.size + 1, 0, none⟩) 2 2, .slice (some ⟨w.heap.size + 1 + 1, 0, none⟩) 1 1, .slice (some ⟨w.heap.size + 1 + 1 + 1, 0, none⟩) 1 1, .slice none 0 0] 28)) w.heap.size 9 ([.string { data := #[97] }, .string { data := #[98] }] : List Value).toArray := ((((Blk.new w _ _ _ rfl).alloc _).alloc _).alloc _).alloc _
  have k1 : Blk (((((w.alloc (.cells #[.string { data := #[97] }, .string { data := #[98] }] 9)).alloc (.cells #[.string { data := #[97] }, .int .i64 1, .int .i64 20000, .int .i64 0, .int .i64 1000, .int .i64 0, .int .i64 0, .string { data := #[98] }, .int .i64 1, .int .i64 20000, .int .i64 0, .int .i64 1000, .int .i64 0, .int .i64 1] 35)).alloc (.cells #[.int .i64 0, .int .i64 1, .int .i64 1, .int .i64 0] 39)).alloc (.cells #[.string { data := #[115, 49] }, .int .i64 0, .int .i64 1, .int .i64 0] 41)).alloc (.cells #[.string { data := #[108, 105, 110, 101] }, .slice (some ⟨w.heap.size, 0, none⟩) 2 2, .slice (some ⟨w.heap.size + 1, 0, none⟩) 2 2, .slice (some ⟨w.heap.size + 1 + 1, 0, none⟩) 1 1, .slice (some ⟨w.heap.size + 1 + 1 + 1, 0, none⟩) 1 1, .slice none 0 0] 28)) (w.heap.size + 1) 35 ([.string { data := #[97] }, .int .i64 1, .int .i64 20000, .int .i64 0, .int .i64 1000, .int .i64 0, .int .i64 0, .string { data := #[98] }, .int .i64 1, .int .i64 20000, .int .i64 0, .int .i64 1000, .int .i64 0, .int .i64 1] : List Value).toArray := (((Blk.new _ _ _ _ (by simp)).alloc _).alloc _).alloc _
  have k2 : Blk (((((w.alloc (.cells #[.string { data := #[97] }, .string { data := #[98] }] 9)).alloc (.cells #[.string { data := #[97] }, .int .i64 1, .int .i64 20000, .int .i64 0, .int .i64 1000, .int .i64 0, .int .i64 0, .string { data := #[98] }, .int .i64 1, .int .i64 20000, .int .i64 0, .int .i64 1000, .int .i64 0, .int .i64 1] 35)).alloc (.cells #[.int .i64 0, .int .i64 1, .int .i64 1, .int .i64 0] 39)).alloc (.cells #[.string { data := #[115, 49] }, .int .i64 0, .int .i64 1, .int .i64 0] 41)).alloc (.cells #[.string { data := #[108, 105, 110, 101] }, .slice (some ⟨w.heap.size, 0, none⟩) 2 2, .slice (some ⟨w.heap.size + 1, 0, none⟩) 2 2, .slice (some ⟨w.heap.size + 1 + 1, 0, none⟩) 1 1, .slice (some ⟨w.heap.size + 1 + 1 + 1, 0, none⟩) 1 1, .slice none 0 0] 28)) (w.heap.size + 2) 39 ([.int .i64 0, .int .i64 1, .int .i64 1, .int .i64 0] : List Value).toArray := ((Blk.new _ _ _ _ (by simp)).alloc _).alloc _
  have k3 : Blk (((((w.alloc (.cells #[.string { data := #[97] }, .string { data := #[98] }] 9)).alloc (.cells #[.string { data := #[97] }, .int .i64 1, .int .i64 20000, .int .i64 0, .int .i64 1000, .int .i64 0, .int .i64 0, .string { data := #[98] }, .int .i64 1, .int .i64 20000, .int .i64 0, .int .i64 1000, .int .i64 0, .int .i64 1] 35)).alloc (.cells #[.int .i64 0, .int .i64 1, .int .i64 1, .int .i64 0] 39)).alloc (.cells #[.string { data := #[115, 49] }, .int .i64 0, .int .i64 1, .int .i64 0] 41)).alloc (.cells #[.string { data := #[108, 105, 110, 101] }, .slice (some ⟨w.heap.size, 0, none⟩) 2 2, .slice (some ⟨w.heap.size + 1, 0, none⟩) 2 2, .slice (some ⟨w.heap.size + 1 + 1, 0, none⟩) 1 1, .slice (some ⟨w.heap.size + 1 + 1 + 1, 0, none⟩) 1 1, .slice none 0 0] 28)) (w.heap.size + 3) 41 ([.string { data := #[115, 49] }, .int .i64 0, .int .i64 1, .int .i64 0] : List Value).toArray := (Blk.new _ _ _ _ (by simp)).alloc _
  have k4 : Blk (((((w.alloc (.cells #[.string { data := #[97] }, .string { data := #[98] }] 9)).alloc (.cells #[.string { data := #[97] }, .int .i64 1, .int .i64 20000, .int .i64 0, .int .i64 1000, .int .i64 0, .int .i64 0, .string { data := #[98] }, .int .i64 1, .int .i64 20000, .int .i64 0, .int .i64 1000, .int .i64 0, .int .i64 1] 35)).alloc (.cells #[.int .i64 0, .int .i64 1, .int .i64 1, .int .i64 0] 39)).alloc (.cells #[.string { data := #[115, 49] }, .int .i64 0, .int .i64 1, .int .i64 0] 41)).alloc (.cells #[.string { data := #[108, 105, 110, 101] }, .slice (some ⟨w.heap.size, 0, none⟩) 2 2, .slice (some ⟨w.heap.size + 1, 0, none⟩) 2 2, .slice (some ⟨w.heap.size + 1 + 1, 0, none⟩) 1 1, .slice (some ⟨w.heap.size + 1 + 1 + 1, 0, none⟩) 1 1, .slice none 0 0] 28)) (w.heap.size + 1 + 1 + 1 + 1) 28 #[.string { data := #[108, 105, 110, 101] }, .slice (some ⟨w.heap.size, 0, none⟩) 2 2, .slice (some ⟨w.heap.size + 1, 0, none⟩) 2 2, .slice (some ⟨w.heap.size + 1 + 1, 0, none⟩) 1 1, .slice (some ⟨w.heap.size + 1 + 1 + 1, 0, none⟩) 1 1, .slice none 0 0] := Blk.new _ _ _ _ (by simp)
  have z : ∀ n : Int, n = 0 ∨ n = 1 ∨ n = 1000 ∨ n = 20000 → I64n n := fun n h => i_ok (by omega) (by omega)
  refine ⟨b5, ⟨s_ok (by simp [lvE, exE]), rds_blk k0 ?_ k0.lt, rds_blk k1 ?_ k1.lt, rds_blk k2 ?_ k2.lt, rds_blk k3 ?_ k3.lt, RdS.nil _ _ _ _, ⟨by unfold maxLen; simp [lvE, exE], by simp [lvE, exE]⟩, ⟨by unfold maxLen; simp [lvE, exE], by simp [lvE, exE]⟩, ⟨by unfold maxLen; simp [lvE, exE], by simp [lvE, exE]⟩, ⟨by unfold maxLen; simp [lvE, exE], by simp [lvE, exE]⟩, ⟨by unfold maxLen; simp [lvE, exE], by simp [lvE, exE]⟩⟩, k4⟩
  · exact ⟨[_], [_], rfl, ⟨rfl, s_ok (by decide)⟩, [_], [], rfl, ⟨rfl, s_ok (by decide)⟩, rfl⟩
  · exact ⟨eltV ⟨[97], 1, 20000, 0, 1000, 0, 0⟩, eltV ⟨[98], 1, 20000, 0, 1000, 0, 1⟩, rfl, ⟨rfl, s_ok (by decide), z _ (by decide), z _ (by decide), z _ (by decide), z _ (by decide), z _ (by decide), z _ (by decide)⟩, _, [], rfl, ⟨rfl, s_ok (by decide), z _ (by decide), z _ (by decide), z _ (by decide), z _ (by decide), z _ (by decide), z _ (by decide)⟩, rfl⟩
  · exact ⟨jntV ⟨⟨0, 1⟩, ⟨1, 0⟩⟩, [], rfl, ⟨rfl, ⟨z _ (by decide), z _ (by decide)⟩, z _ (by decide), z _ (by decide)⟩, rfl⟩
  · exact ⟨sgnV ⟨[115, 49], ⟨0, 1⟩, 0⟩, [], rfl, ⟨rfl, s_ok (by decide), ⟨z _ (by decide), z _ (by decide)⟩, z _ (by decide)⟩, rfl⟩
theorem parC {s : List UInt8} {r : Lay × Nat × Int} (h : parL s = r) (W : World) (E : EnvS W) (hs : s.length ≤ maxLen) : Calls Tryz.prog 8 #[.string (bs s)] W (ParPost W r) := h ▸ parse_any s W E hs
theorem txE_len : txE.length ≤ maxLen := by unfold txE maxLen; decide
theorem tx3_len : tx3.length ≤ maxLen := by unfold tx3 maxLen; decide
theorem tx4_len : tx4.length ≤ maxLen := by unfold tx4 maxLen; decide
theorem parse3 (W : World) (E : EnvS W) : Calls Tryz.prog 8 #[.string { data := #[108, 97, 121, 111, 117, 116, 32, 108, 105, 110, 101, 10, 115, 101, 99, 116, 105, 111, 110, 32, 97, 10, 116, 114, 97, 99, 107, 32, 97, 32, 120, 32, 50, 48, 48, 48, 48, 32, 48, 32, 49, 48, 48, 48, 10] }] W (ParPost W (zL, 3, 9)) := by
  have h := parC par3 W E tx3_len
  unfold tx3 at h
  exact h
theorem parse4 (W : World) (E : EnvS W) : Calls Tryz.prog 8 #[.string { data := #[108, 97, 121, 111, 117, 116, 32, 108, 105, 110, 101, 10] }] W (ParPost W (zL, 0, 2)) := by
  have h := parC par4 W E tx4_len
  unfold tx4 at h
  exact h
theorem printE (w W : World) (E : EnvS W) (h : LvR W (lvE w.heap.size)) : Calls Tryz.prog 6 #[.agg #[.string { data := #[108, 105, 110, 101] }, .slice (some ⟨w.heap.size, 0, none⟩) 2 2, .slice (some ⟨w.heap.size + 1, 0, none⟩) 2 2, .slice (some ⟨w.heap.size + 1 + 1, 0, none⟩) 1 1, .slice (some ⟨w.heap.size + 1 + 1 + 1, 0, none⟩) 1 1, .slice none 0 0]] W fun e w' => e = .returned (.tuple #[.string (bs txE), .int .i64 0]) ∧ Below W.heap.size W w' := by
  have h := print_any (lvE w.heap.size) W E h (by simp [lvE, exE])
  rw [show (lvE w.heap.size).l = exE from rfl, prtE] at h
  exact h
theorem sameE (w W : World) (v : LV) (hv : v.l = exE) (hr : LvR W v) (h : LvR W (lvE w.heap.size)) : Calls Tryz.prog 10 #[.agg #[.string (bs v.l.name), .slice v.A1 v.l.secs.length v.c1, .slice v.A2 v.l.els.length v.c2, .slice v.A3 v.l.jts.length v.c3, .slice v.A4 v.l.sgs.length v.c4, .slice v.A5 v.l.bls.length v.c5], .agg #[.string { data := #[108, 105, 110, 101] }, .slice (some ⟨w.heap.size, 0, none⟩) 2 2, .slice (some ⟨w.heap.size + 1, 0, none⟩) 2 2, .slice (some ⟨w.heap.size + 1 + 1, 0, none⟩) 1 1, .slice (some ⟨w.heap.size + 1 + 1 + 1, 0, none⟩) 1 1, .slice none 0 0]] W fun e w' => e = .returned (.bool true) ∧ Below W.heap.size W w' := by
  have h := sameL_any v (lvE w.heap.size) W hr h
  rw [decide_eq_true (show v.l = (lvE w.heap.size).l from hv)] at h
  exact h
set_option maxRecDepth 100000 in
set_option maxHeartbeats 16000000 in
theorem alive_any (w : World) (E : EnvS w) : Calls Tryz.prog 5 #[] w fun e w' => e = .returned (.bool true) ∧ Below w.heap.size w w' := by
  have hA := AlE.start w
  go_enter Tryz.func5, Tryz.ntmps5
  go_upto_region 2 with (fail)
  generalize (((((w.alloc (.cells #[.string { data := #[97] }, .string { data := #[98] }] 9)).alloc (.cells #[.string { data := #[97] }, .int .i64 1, .int .i64 20000, .int .i64 0, .int .i64 1000, .int .i64 0, .int .i64 0, .string { data := #[98] }, .int .i64 1, .int .i64 20000, .int .i64 0, .int .i64 1000, .int .i64 0, .int .i64 1] 35)).alloc (.cells #[.int .i64 0, .int .i64 1, .int .i64 1, .int .i64 0] 39)).alloc (.cells #[.string { data := #[115, 49] }, .int .i64 0, .int .i64 1, .int .i64 0] 41)).alloc (.cells #[.string { data := #[108, 105, 110, 101] }, .slice (some ⟨w.heap.size, 0, none⟩) 2 2, .slice (some ⟨w.heap.size + 1, 0, none⟩) 2 2, .slice (some ⟨w.heap.size + 1 + 1, 0, none⟩) 1 1, .slice (some ⟨w.heap.size + 1 + 1 + 1, 0, none⟩) 1 1, .slice none 0 0] 28)) = w1 at hA ⊢
  go_wp2_with (go_at_call 9; refine (text_any _).mono ?_; rintro e w' ⟨rfl, rfl⟩)
  refine (parC parE _ (E.now hA.bel) txE_len).mono ?_
  rintro e w2 ⟨v, hv, rfl, hvr, hq⟩
  have hA2 := hA.now hq
  unfold lvA
  have HV := Lib.hid hv
  have hal := (Below.refl w2.heap.size w2).alloc (Nat.le_refl _) (.cells #[.string (bs v.l.name), .slice v.A1 v.l.secs.length v.c1, .slice v.A2 v.l.els.length v.c2, .slice v.A3 v.l.jts.length v.c3, .slice v.A4 v.l.sgs.length v.c4, .slice v.A5 v.l.bls.length v.c5] 28)
  have hA3 := hA2.now hal
  have hk : Blk (w2.alloc (.cells #[.string (bs v.l.name), .slice v.A1 v.l.secs.length v.c1, .slice v.A2 v.l.els.length v.c2, .slice v.A3 v.l.jts.length v.c3, .slice v.A4 v.l.sgs.length v.c4, .slice v.A5 v.l.bls.length v.c5] 28)) w2.heap.size 28 #[.string (bs v.l.name), .slice v.A1 v.l.secs.length v.c1, .slice v.A2 v.l.els.length v.c2, .slice v.A3 v.l.jts.length v.c3, .slice v.A4 v.l.sgs.length v.c4, .slice v.A5 v.l.bls.length v.c5] := Blk.new _ _ _ _ rfl
  have hv3 := hvr.now hal
  clear hA hq hA2 hal hv hvr
  generalize hg2 : w2.heap.size = g2 at hk
  have x0 := hA3.blk.cell 0
  have x1 := hA3.blk.cell 1
  have x2 := hA3.blk.cell 2
  have x3 := hA3.blk.cell 3
  have x4 := hA3.blk.cell 4
  have x5 := hA3.blk.cell 5
  simp only [List.getElem?_toArray, List.getElem?_cons_zero, List.getElem?_cons_succ] at x0 x1 x2 x3 x4 x5
  go_wp2_with fail
  refine (printE w _ (E.now hA3.bel) hA3.rd).mono ?_
  rintro e w4 ⟨rfl, hq4⟩
  have hA4 := hA3.now hq4
  have hk4 := hk.now hq4
  have hv4 := hv3.now hq4
  clear hA3 hk hv3 hq4 x0 x1 x2 x3 x4 x5
  go_wp2_with fail
  refine (parse3 _ (E.now hA4.bel)).mono ?_
  rintro e w5 ⟨v3, -, rfl, -, hq5⟩
  have hq6 := hq5.alloc hq5.size (.cells #[.string (bs v3.l.name), .slice v3.A1 v3.l.secs.length v3.c1, .slice v3.A2 v3.l.els.length v3.c2, .slice v3.A3 v3.l.jts.length v3.c3, .slice v3.A4 v3.l.sgs.length v3.c4, .slice v3.A5 v3.l.bls.length v3.c5] 28)
  have hA6 := hA4.now hq6
  have hk6 := hk4.now hq6
  have hv6 := hv4.now hq6
  clear hA4 hk4 hv4 hq5 hq6
  unfold lvA
  go_wp2_with fail
  refine (parse4 _ (E.now hA6.bel)).mono ?_
  rintro e w7 ⟨v4, -, rfl, -, hq7⟩
  have hq8 := hq7.alloc hq7.size (.cells #[.string (bs v4.l.name), .slice v4.A1 v4.l.secs.length v4.c1, .slice v4.A2 v4.l.els.length v4.c2, .slice v4.A3 v4.l.jts.length v4.c3, .slice v4.A4 v4.l.sgs.length v4.c4, .slice v4.A5 v4.l.bls.length v4.c5] 28)
  have hA8 := hA6.now hq8
  have hk8 := hk6.now hq8
  have hv8 := hv6.now hq8
  clear hA6 hk6 hv6 hq7 hq8
  unfold lvA
  have x0 := hA8.blk.cell 0
  have x1 := hA8.blk.cell 1
  have x2 := hA8.blk.cell 2
  have x3 := hA8.blk.cell 3
  have x4 := hA8.blk.cell 4
  have x5 := hA8.blk.cell 5
  have y0 := hk8.cell 0
  have y1 := hk8.cell 1
  have y2 := hk8.cell 2
  have y3 := hk8.cell 3
  have y4 := hk8.cell 4
  have y5 := hk8.cell 5
  simp only [List.getElem?_toArray, List.getElem?_cons_zero, List.getElem?_cons_succ] at x0 x1 x2 x3 x4 x5 y0 y1 y2 y3 y4 y5
  go_wp2_with (first | (go_at_call 10; refine (sameE w _ v HV.out hv8 hA8.rd).mono ?_; rintro e w9 ⟨rfl, hq9⟩) | (go_at_call 9; refine (text_any _).mono ?_; rintro e w' ⟨rfl, rfl⟩))
  go_ret
  exact ⟨rfl, (hA8.now hq9).bel⟩
end Go.Proofs.YtopoknocfoiiaaaGreatDoor
