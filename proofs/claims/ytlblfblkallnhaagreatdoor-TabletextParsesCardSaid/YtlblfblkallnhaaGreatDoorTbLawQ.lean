/- The walk of the law TabletextParses. -/
import Derived.Test.YtlblfblkallnhaaGreatDoorTbAliveB
import Derived.Test.YtlblfblkallnhaaGreatDoorTbRqG
namespace Go.Proofs.YtlblfblkallnhaaGreatDoor
set_option linter.unusedVariables false
set_option linter.unusedSimpArgs false
open Go.RowKit
attribute [local go_sem] bs_size bs_get bs_append bs_extract bs_toList
attribute [-go_sem] run_equalIn_agg
theorem par_small {s : List UInt8} {t : Tab} {n : Nat} {x : Int} (h : parT s = (t, n, x)) : t.rts.length ≤ 48 := by
  have hz : zT.rts.length ≤ 48 := by simp [zT]
  rcases hl : linesF s with ⟨m, a, f⟩
  by_cases hf : f = 0
  · subst hf
    by_cases hm : m = []
    · subst hm
      rw [par_empty hl] at h
      rw [← (Prod.mk.inj h).1]; exact hz
    · rw [par_read hl hm] at h
      unfold endT at h
      split at h
      · split at h
        · rename_i hc
          have := (chkT_ok hc).1
          unfold limB at this
          simp only [Bool.and_eq_true, decide_eq_true_eq] at this
          rw [← (Prod.mk.inj h).1]; exact this.1
        · rw [← (Prod.mk.inj h).1]; exact hz
      · rename_i h0
        rcases hr : readT zT 0 0 m with ⟨u, k, e⟩
        rw [hr] at h h0
        simp only at h h0
        have := (read_bad m zT u 0 0 k e hr h0).1
        simp only [Prod.mk.injEq] at h
        rw [← h.1, this]; exact hz
  · rw [par_lines_bad hl hf] at h
    rw [← (Prod.mk.inj h).1]; exact hz
theorem rtparseC {s : List UInt8} {r : Tab × Nat × Int} (h : parT s = r) (w : World) (hs : s.length ≤ maxLen) (hs2 : s.length ≤ 20000) : Calls Tryz.prog 13 #[.string (bs s)] w (TParPost w r) := h ▸ rtparse_any s w hs hs2
set_option maxRecDepth 100000 in
set_option maxHeartbeats 16000000 in
theorem tabletextParses_walk (s : List UInt8) (w : World) (E : EnvR w) (hs : s.length ≤ maxLen) : Calls Tryz.prog 4 #[.string (bs s)] w (True1 w) := by
  have HE := Lib.hid E
  unfold maxLen at hs
  clear E
  by_cases hlong : 20000 < s.length
  · have hl2 : (20000 : Int) < (s.length : Int) := by omega
    clear hlong
    go_enter Tryz.func4, Tryz.ntmps4
    go_wp2_with fail
    refine (alive_any _ HE.out).mono ?_
    rintro e wz ⟨rfl, hqz⟩
    go_wp2_with fail
    go_ret
    exact ⟨rfl, hqz⟩
  have hl2 : ¬ (20000 : Int) < (s.length : Int) := by omega
  obtain ⟨⟨t, n, x⟩, hp⟩ : ∃ r, parT s = r := ⟨_, rfl⟩
  have HP := Lib.hid fun W E => tparseC hp W E (by unfold maxLen; omega)
  have HR := Lib.hid fun W => rtparseC hp W (by unfold maxLen; omega) (by omega)
  have HSM := Lib.hid (par_small hp)
  have t1 : ((n : Int) == (n : Int)) = true := by simp
  have t2 : (x == x) = true := by simp
  clear hlong hp hs
  go_enter Tryz.func4, Tryz.ntmps4
  go_wp2_with fail
  refine (HP.out _ HE.out).mono ?_
  rintro e w1 ⟨v1, hv1, rfl, hr1, hq1⟩
  have HV1 := Lib.hid hv1
  have hal : Below w1.heap.size w1 (w1.alloc (.cells #[.slice v1.A1 v1.t.rts.length v1.c1, .slice v1.A2 v1.t.pts.length v1.c2, .slice v1.A3 v1.t.homes.length v1.c3, .int .i64 v1.t.nsec, .int .i64 v1.t.nsig] 25)) := (Below.refl _ _).alloc (Nat.le_refl _) _
  have hb2 : Blk (w1.alloc (.cells #[.slice v1.A1 v1.t.rts.length v1.c1, .slice v1.A2 v1.t.pts.length v1.c2, .slice v1.A3 v1.t.homes.length v1.c3, .int .i64 v1.t.nsec, .int .i64 v1.t.nsig] 25)) w1.heap.size 25 #[.slice v1.A1 v1.t.rts.length v1.c1, .slice v1.A2 v1.t.pts.length v1.c2, .slice v1.A3 v1.t.homes.length v1.c3, .int .i64 v1.t.nsec, .int .i64 v1.t.nsig] := Blk.new _ _ _ _ rfl
  have hB2 := bel_then hq1 hq1.size hal
  have hr2 := hr1.now hal
  clear hv1 hq1 hr1 hal HP
  unfold tvA
  dsimp only
  go_wp2_with fail
  generalize w1.alloc (.cells #[.slice v1.A1 v1.t.rts.length v1.c1, .slice v1.A2 v1.t.pts.length v1.c2, .slice v1.A3 v1.t.homes.length v1.c3, .int .i64 v1.t.nsec, .int .i64 v1.t.nsig] 25) = w2 at *
  generalize w1.heap.size = g1 at *
  refine (HR.out _).mono ?_
  rintro e w3 ⟨v2, hv2, rfl, hr3, hq3⟩
  have HV2 := Lib.hid hv2
  have hB3 := bel_then hB2 hB2.size hq3
  have hr23 := hr2.now hq3
  have hb3 := hb2.now hq3
  have hal : Below w3.heap.size w3 (w3.alloc (.cells #[.slice v2.A1 v2.t.rts.length v2.c1, .slice v2.A2 v2.t.pts.length v2.c2, .slice v2.A3 v2.t.homes.length v2.c3, .int .i64 v2.t.nsec, .int .i64 v2.t.nsig] 25)) := (Below.refl _ _).alloc (Nat.le_refl _) _
  have hd4 : Blk (w3.alloc (.cells #[.slice v2.A1 v2.t.rts.length v2.c1, .slice v2.A2 v2.t.pts.length v2.c2, .slice v2.A3 v2.t.homes.length v2.c3, .int .i64 v2.t.nsec, .int .i64 v2.t.nsig] 25)) w3.heap.size 25 #[.slice v2.A1 v2.t.rts.length v2.c1, .slice v2.A2 v2.t.pts.length v2.c2, .slice v2.A3 v2.t.homes.length v2.c3, .int .i64 v2.t.nsec, .int .i64 v2.t.nsig] := Blk.new _ _ _ _ rfl
  have hB4 := bel_then hB3 hB3.size hal
  have hr24 := hr23.now hal
  have hr34 := hr3.now hal
  have hb4 := hb3.now hal
  have c0 := hb3.cell 0
  have c1 := hb3.cell 1
  have c2 := hb3.cell 2
  have c3 := hb3.cell 3
  have c4 := hb3.cell 4
  simp only [List.getElem?_toArray, List.getElem?_cons_zero, List.getElem?_cons_succ] at c0 c1 c2 c3 c4
  have hlt3 := hb3.lt
  clear hv2 hq3 hr3 hal HR hB2 hr2 hb2 hB3 hr23 hb3 hb4 hd4
  unfold tvA
  dsimp only
  go_wp2_with fail
  clear c0 c1 c2 c3 c4 hlt3
  generalize w3.alloc (.cells #[.slice v2.A1 v2.t.rts.length v2.c1, .slice v2.A2 v2.t.pts.length v2.c2, .slice v2.A3 v2.t.homes.length v2.c3, .int .i64 v2.t.nsec, .int .i64 v2.t.nsig] 25) = w4 at *
  generalize w3.heap.size = g2 at *
  have hsame : decide (v1.t = v2.t) = true := by rw [HV1.out, HV2.out]; simp
  have HS := Lib.hid fun W h1 h2 => sameTC hsame W h1 h2 (by have := HSM.out; have h := HV1.out; rw [h]; omega)
  clear hsame HV1 HV2
  unfold tvA at HS
  refine (HS.out _ hr24 hr34).mono ?_
  rintro e w5 ⟨rfl, hq5⟩
  have hB5 := bel_then hB4 hB4.size hq5
  clear hr24 hr34 hB4 HS hq5
  go_wp2_with fail
  refine (alive_any _ (HE.out.now hB5)).mono ?_
  rintro e wz ⟨rfl, hqz⟩
  have hz := bel_then hB5 hB5.size hqz
  go_wp2_with fail
  go_ret
  exact ⟨rfl, hz⟩
end Go.Proofs.YtlblfblkallnhaaGreatDoor
