/- The walk of the example. -/
import Derived.Test.YtlblfblkallnhaaGreatDoorTbAlive
import Derived.Test.YtlblfblkallnhaaGreatDoorTbPrint
import Derived.Test.YtlblfblkallnhaaGreatDoorTbSameT
import Derived.Deep.Cut
namespace Go.Proofs.YtlblfblkallnhaaGreatDoor
set_option linter.unusedVariables false
set_option linter.unusedSimpArgs false
open Go.RowKit
attribute [local go_sem] bs_size bs_get bs_append bs_extract bs_toList
attribute [-go_sem] run_equalIn_agg
theorem text_any (w : World) : Calls Tryz.prog 20 #[] w fun e w' => e = .returned (.string (bs exT)) ∧ w = w' := by
  go_enter Tryz.func20, Tryz.ntmps20
  go_wp2_with fail
  go_ret
  exact ⟨rfl, rfl⟩
def exRou : Rou := ⟨[115, 49, 45, 115, 50], 0, -1, 0, 20000, [⟨1, 0, 1⟩], [], [1], [], [], [], [], [], []⟩
def exRV (g : Nat) : RouV := ⟨exRou, some ⟨g, 0, none⟩, none, some ⟨g + 1, 0, none⟩, none, none, none, none, none, none, 1, 0, 1, 0, 0, 0, 0, 0, 0⟩
def exTV (g : Nat) : TabV := ⟨exTab, some ⟨g + 2, 0, none⟩, none, none, 1, 0, 0⟩
theorem exTV_rd {w : World} {g : Nat} {T1 T2 T3 : TypeId} (h1 : Blk w g T1 #[.int .i64 1, .int .i64 0, .int .i64 1]) (h2 : Blk w (g + 1) T2 #[.int .i64 1]) (h3 : Blk w (g + 2) T3 (rouV (exRV g)).toArray) : TvR w (exTV g) := by
  have i1 : I64n 1 := ⟨by decide, by decide⟩
  have hr : RvR w (Lt w) (exRV g) := by
    refine ⟨⟨by simp [exRV, exRou, maxLen], i64z, (show I64n (-1) from ⟨by decide, by decide⟩), i64z, (show I64n 20000 from ⟨by decide, by decide⟩), by simp [exRV, exRou, maxLen], by simp [exRV, exRou, maxLen], by simp [exRV, exRou, maxLen], by simp [exRV, exRou, maxLen], by simp [exRV, exRou, maxLen], by simp [exRV, exRou, maxLen], by simp [exRV, exRou, maxLen], by simp [exRV, exRou, maxLen], by simp [exRV, exRou, maxLen]⟩, ?_, RdS.nil _ _ _ _, ?_, RdS.nil _ _ _ _, RdS.nil _ _ _ _, RdS.nil _ _ _ _, RdS.nil _ _ _ _, RdS.nil _ _ _ _, RdS.nil _ _ _ _⟩
    · refine fun _ => ⟨g, 0, rfl, h1.lt, fun i x hi => ?_⟩
      match i, hi with
      | 0, hi =>
        simp [exRV, exRou] at hi; subst hi
        refine ⟨_, ⟨rfl, i1, i64z, i1⟩, fun j u hu => ?_⟩
        simp only [Nat.zero_mul, Nat.zero_add]; rw [h1.cell]
        simpa using hu
      | i + 1, hi => simp [exRV, exRou] at hi
    · refine fun _ => ⟨g + 1, 0, rfl, h2.lt, fun i x hi => ?_⟩
      match i, hi with
      | 0, hi =>
        simp [exRV, exRou] at hi; subst hi
        refine ⟨_, ⟨rfl, i1⟩, fun j u hu => ?_⟩
        simp only [Nat.zero_mul, Nat.zero_add]; rw [h2.cell]
        simpa using hu
      | i + 1, hi => simp [exRV, exRou] at hi
  refine ⟨?_, RdS.nil _ _ _ _, RdS.nil _ _ _ _, by simp [exTV, exTab, maxLen], by simp [exTV, exTab], by simp [exTV, exTab], (show I64n 3 from ⟨by decide, by decide⟩), i1⟩
  refine fun _ => ⟨g + 2, 0, rfl, h3.lt, fun i x hi => ?_⟩
  match i, hi with
  | 0, hi =>
    simp [exTV, exTab] at hi; subst hi
    refine ⟨_, ⟨exRV g, rfl, rfl, hr⟩, fun j u hu => ?_⟩
    simp only [Nat.zero_mul, Nat.zero_add]; rw [h3.cell]
    simpa using hu
  | i + 1, hi => simp [exTV, exTab] at hi
theorem exSh : ∀ r ∈ exTab.rts, ShR r := by
  intro r hr
  simp [exTab] at hr
  subst hr
  exact ⟨by decide, by decide, by decide, by decide, by decide, by decide, by decide, by decide, by decide⟩
theorem tparseC {s : List UInt8} {r : Tab × Nat × Int} (h : parT s = r) (w : World) (E : EnvR w) (hs : s.length ≤ maxLen) : Calls Tryz.prog 12 #[.string (bs s)] w (TParPost w r) := h ▸ tparse_any s w E hs
theorem tprintC {v : TabV} {r : List UInt8 × Int} (h : prtT v.t = r) (w : World) (E : EnvR w) (hr : TvR w v) (hsm : ∀ x ∈ v.t.rts, ShR x) : Calls Tryz.prog 10 #[tvA v] w fun e w' => e = .returned (.tuple #[.string (bs r.1), .int .i64 r.2]) ∧ Below w.heap.size w w' := h ▸ tprint_any v w E hr hsm
theorem sameTC {a b : TabV} {r : Bool} (h : decide (a.t = b.t) = r) (w : World) (ha : TvR w a) (hb : TvR w b) (hla : a.t.rts.length ≤ 100000) : Calls Tryz.prog 14 #[tvA a, tvA b] w fun e w' => e = .returned (.bool r) ∧ Below w.heap.size w w' := h ▸ sameT_any a b w ha hb hla
set_option maxRecDepth 100000 in
set_option maxHeartbeats 16000000 in
theorem alive_any (w : World) (E : EnvR w) : Calls Tryz.prog 9 #[] w fun e w' => e = .returned (.bool true) ∧ Below w.heap.size w w' := by
  go_enter Tryz.func9, Tryz.ntmps9
  go_wp2_with fail
  refine (text_any _).mono ?_
  rintro e w1 ⟨rfl, rfl⟩
  go_wp2_with fail
  have hB : Below w.heap.size w ((((w.alloc (.cells #[.int .i64 1, .int .i64 0, .int .i64 1] 50)).alloc (.cells #[.int .i64 1] 3)).alloc (.cells #[.string { data := #[115, 49, 45, 115, 50] }, .int .i64 0, .int .i64 (-1), .slice (some ⟨w.heap.size, 0, none⟩) 1 1, .slice none 0 0, .slice (some ⟨w.heap.size + 1, 0, none⟩) 1 1, .int .i64 0, .int .i64 20000, .slice none 0 0, .slice none 0 0, .slice none 0 0, .slice none 0 0, .slice none 0 0, .slice none 0 0] 41)).alloc (.cells #[.slice (some ⟨w.heap.size + 1 + 1, 0, none⟩) 1 1, .slice none 0 0, .slice none 0 0, .int .i64 3, .int .i64 1] 25)) := (((((Below.refl w.heap.size w).alloc (Nat.le_refl _) _).alloc (by simp) _).alloc (by simp; omega) _).alloc (by simp; omega) _)
  have hwr : TvR ((((w.alloc (.cells #[.int .i64 1, .int .i64 0, .int .i64 1] 50)).alloc (.cells #[.int .i64 1] 3)).alloc (.cells #[.string { data := #[115, 49, 45, 115, 50] }, .int .i64 0, .int .i64 (-1), .slice (some ⟨w.heap.size, 0, none⟩) 1 1, .slice none 0 0, .slice (some ⟨w.heap.size + 1, 0, none⟩) 1 1, .int .i64 0, .int .i64 20000, .slice none 0 0, .slice none 0 0, .slice none 0 0, .slice none 0 0, .slice none 0 0, .slice none 0 0] 41)).alloc (.cells #[.slice (some ⟨w.heap.size + 1 + 1, 0, none⟩) 1 1, .slice none 0 0, .slice none 0 0, .int .i64 3, .int .i64 1] 25)) (exTV w.heap.size) := exTV_rd ((((Blk.new _ _ _ _ rfl).alloc _).alloc _).alloc _) (((Blk.new _ _ _ _ (by simp)).alloc _).alloc _) ((Blk.new _ _ _ _ (by simp)).alloc _)
  have hwb : Blk ((((w.alloc (.cells #[.int .i64 1, .int .i64 0, .int .i64 1] 50)).alloc (.cells #[.int .i64 1] 3)).alloc (.cells #[.string { data := #[115, 49, 45, 115, 50] }, .int .i64 0, .int .i64 (-1), .slice (some ⟨w.heap.size, 0, none⟩) 1 1, .slice none 0 0, .slice (some ⟨w.heap.size + 1, 0, none⟩) 1 1, .int .i64 0, .int .i64 20000, .slice none 0 0, .slice none 0 0, .slice none 0 0, .slice none 0 0, .slice none 0 0, .slice none 0 0] 41)).alloc (.cells #[.slice (some ⟨w.heap.size + 1 + 1, 0, none⟩) 1 1, .slice none 0 0, .slice none 0 0, .int .i64 3, .int .i64 1] 25)) (w.heap.size + 1 + 1 + 1) 25 #[.slice (some ⟨w.heap.size + 1 + 1, 0, none⟩) 1 1, .slice none 0 0, .slice none 0 0, .int .i64 3, .int .i64 1] := Blk.new _ _ _ _ (by simp)
  generalize ((((w.alloc (.cells #[.int .i64 1, .int .i64 0, .int .i64 1] 50)).alloc (.cells #[.int .i64 1] 3)).alloc (.cells #[.string { data := #[115, 49, 45, 115, 50] }, .int .i64 0, .int .i64 (-1), .slice (some ⟨w.heap.size, 0, none⟩) 1 1, .slice none 0 0, .slice (some ⟨w.heap.size + 1, 0, none⟩) 1 1, .int .i64 0, .int .i64 20000, .slice none 0 0, .slice none 0 0, .slice none 0 0, .slice none 0 0, .slice none 0 0, .slice none 0 0] 41)).alloc (.cells #[.slice (some ⟨w.heap.size + 1 + 1, 0, none⟩) 1 1, .slice none 0 0, .slice none 0 0, .int .i64 3, .int .i64 1] 25)) = W1 at *
  have HE := Lib.hid E
  have hml : exT.length ≤ maxLen ∧ exT2.length ≤ maxLen ∧ exT3.length ≤ maxLen := ⟨Nat.le_trans (show exT.length ≤ 200 by decide) (by unfold maxLen; omega), Nat.le_trans (show exT2.length ≤ 200 by decide) (by unfold maxLen; omega), Nat.le_trans (show exT3.length ≤ 200 by decide) (by unfold maxLen; omega)⟩
  have HML := Lib.hid hml
  clear hml E
  refine (tparseC ex_par _ (HE.out.now hB) HML.out.1).mono ?_
  rintro e w2 ⟨v1, hv1, rfl, hr1, hq1⟩
  have HV1 := Lib.hid hv1
  have hB2 := bel_then hB hB.size hq1
  have hwr2 := hwr.now hq1
  have hwb2 := hwb.now hq1
  have c0 := hwb2.cell 0
  have c1 := hwb2.cell 1
  have c2 := hwb2.cell 2
  have c3 := hwb2.cell 3
  have c4 := hwb2.cell 4
  simp only [List.getElem?_toArray, List.getElem?_cons_zero, List.getElem?_cons_succ] at c0 c1 c2 c3 c4
  have hlt2 := hwb2.lt
  have hal : Below w2.heap.size w2 (w2.alloc (.cells #[.slice v1.A1 v1.t.rts.length v1.c1, .slice v1.A2 v1.t.pts.length v1.c2, .slice v1.A3 v1.t.homes.length v1.c3, .int .i64 v1.t.nsec, .int .i64 v1.t.nsig] 25)) := (Below.refl _ _).alloc (Nat.le_refl _) _
  have hb1 : Blk (w2.alloc (.cells #[.slice v1.A1 v1.t.rts.length v1.c1, .slice v1.A2 v1.t.pts.length v1.c2, .slice v1.A3 v1.t.homes.length v1.c3, .int .i64 v1.t.nsec, .int .i64 v1.t.nsig] 25)) w2.heap.size 25 #[.slice v1.A1 v1.t.rts.length v1.c1, .slice v1.A2 v1.t.pts.length v1.c2, .slice v1.A3 v1.t.homes.length v1.c3, .int .i64 v1.t.nsec, .int .i64 v1.t.nsig] := Blk.new _ _ _ _ rfl
  have hB3 := bel_then hB2 hB2.size hal
  have hr3 := hr1.now hal
  have hwr3 := hwr2.now hal
  have hwb3 := hwb2.now hal
  clear hv1 hB hwr hwb hq1 hr1 hB2 hwr2 hwb2 hal
  unfold tvA
  dsimp only
  go_wp2_with fail
  generalize w2.alloc (.cells #[.slice v1.A1 v1.t.rts.length v1.c1, .slice v1.A2 v1.t.pts.length v1.c2, .slice v1.A3 v1.t.homes.length v1.c3, .int .i64 v1.t.nsec, .int .i64 v1.t.nsig] 25) = w3 at *
  generalize w2.heap.size = g1 at *
  clear c0 c1 c2 c3 c4 hlt2
  refine (tprintC (v := exTV w.heap.size) ex_prt _ (HE.out.now hB3) hwr3 exSh).mono ?_
  rintro e w4 ⟨rfl, hq4⟩
  have hB4 := bel_then hB3 hB3.size hq4
  have hr4 := hr3.now hq4
  have hwr4 := hwr3.now hq4
  have hwb4 := hwb3.now hq4
  have hb4 := hb1.now hq4
  clear hB3 hr3 hwr3 hwb3 hb1 hq4
  go_wp2_with fail
  obtain ⟨⟨t2, n2, x2⟩, hp2⟩ : ∃ r, parT exT2 = r := ⟨_, rfl⟩
  obtain ⟨rfl, rfl⟩ : n2 = 3 ∧ x2 = 4 := by have h := ex_par2; rw [hp2] at h; simpa using h
  refine (tparseC hp2 _ (HE.out.now hB4) HML.out.2.1).mono ?_
  rintro e w5 ⟨v2, hv2, rfl, hr5', hq5⟩
  have hq5b : Below w4.heap.size w4 (w5.alloc (.cells #[.slice v2.A1 v2.t.rts.length v2.c1, .slice v2.A2 v2.t.pts.length v2.c2, .slice v2.A3 v2.t.homes.length v2.c3, .int .i64 v2.t.nsec, .int .i64 v2.t.nsig] 25)) := hq5.alloc hq5.size _
  have hB5 := bel_then hB4 hB4.size hq5b
  have hr5 := hr4.now hq5b
  have hwr5 := hwr4.now hq5b
  have hwb5 := hwb4.now hq5b
  have hb5 := hb4.now hq5b
  clear hB4 hr4 hwr4 hwb4 hb4 hq5 hq5b hv2 hr5' hp2
  unfold tvA
  dsimp only
  go_wp2_with fail
  generalize w5.alloc (.cells #[.slice v2.A1 v2.t.rts.length v2.c1, .slice v2.A2 v2.t.pts.length v2.c2, .slice v2.A3 v2.t.homes.length v2.c3, .int .i64 v2.t.nsec, .int .i64 v2.t.nsig] 25) = w6 at *
  obtain ⟨⟨t3, n3, x3⟩, hp3⟩ : ∃ r, parT exT3 = r := ⟨_, rfl⟩
  obtain ⟨rfl, rfl⟩ : n3 = 0 ∧ x3 = 1 := by have h := ex_par3; rw [hp3] at h; simpa using h
  refine (tparseC hp3 _ (HE.out.now hB5) HML.out.2.2).mono ?_
  rintro e w7 ⟨v3, hv3, rfl, hr7', hq7⟩
  have hq7b : Below w6.heap.size w6 (w7.alloc (.cells #[.slice v3.A1 v3.t.rts.length v3.c1, .slice v3.A2 v3.t.pts.length v3.c2, .slice v3.A3 v3.t.homes.length v3.c3, .int .i64 v3.t.nsec, .int .i64 v3.t.nsig] 25)) := hq7.alloc hq7.size _
  have hB7 := bel_then hB5 hB5.size hq7b
  have hr7 := hr5.now hq7b
  have hwr7 := hwr5.now hq7b
  have hwb7 := hwb5.now hq7b
  have hb7 := hb5.now hq7b
  have c0 := hwb7.cell 0
  have c1 := hwb7.cell 1
  have c2 := hwb7.cell 2
  have c3 := hwb7.cell 3
  have c4 := hwb7.cell 4
  have d0 := hb7.cell 0
  have d1 := hb7.cell 1
  have d2 := hb7.cell 2
  have d3 := hb7.cell 3
  have d4 := hb7.cell 4
  simp only [List.getElem?_toArray, List.getElem?_cons_zero, List.getElem?_cons_succ] at c0 c1 c2 c3 c4 d0 d1 d2 d3 d4
  clear hB5 hr5 hwr5 hwb5 hb5 hq7 hq7b hv3 hr7' hp3 hwb7 hb7
  unfold tvA
  dsimp only
  go_upto_region 6 with (fail)
  generalize w7.alloc (.cells #[.slice v3.A1 v3.t.rts.length v3.c1, .slice v3.A2 v3.t.pts.length v3.c2, .slice v3.A3 v3.t.homes.length v3.c3, .int .i64 v3.t.nsec, .int .i64 v3.t.nsig] 25) = w8 at *
  go_wp2_with fail
  refine (sameTC (a := v1) (b := exTV w.heap.size) (decide_eq_true HV1.out) _ hr7 hwr7 (by rw [HV1.out]; decide)).mono ?_
  rintro e w9 ⟨rfl, hq9⟩
  have hB9 := bel_then hB7 hB7.size hq9
  go_wp2_with fail
  refine (text_any _).mono ?_
  rintro e w10 ⟨rfl, rfl⟩
  go_wp2_with fail
  go_ret
  exact ⟨rfl, hB9⟩
end Go.Proofs.YtlblfblkallnhaaGreatDoor
