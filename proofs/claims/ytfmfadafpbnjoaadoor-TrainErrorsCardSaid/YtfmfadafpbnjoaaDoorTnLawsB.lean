/- The walks of the laws TrainReads, TrainMeasures, TrainErrors, TrainRoundTrips. -/
import Derived.Test.YtfmfadafpbnjoaaDoorTnLawsA
import Derived.Test.YtfmfadafpbnjoaaDoorTnParseR
namespace Go.Proofs.YtfmfadafpbnjoaaDoor
set_option linter.unusedVariables false
set_option linter.unusedSimpArgs false
open Go.RowKit
attribute [local go_sem] bs_size bs_get bs_append bs_extract bs_toList
attribute [-go_sem] run_equalIn_agg
theorem parseC {s : List UInt8} {t : Trn} {x : Int} (h : parT s = (t, x)) (w : World) (E : EnvR w) (hs : s.length ≤ 5000) : Calls Tryd.prog 14 #[.string (bs s)] w fun e w' => e = .returned (.tuple #[trnA t, .int .i64 x]) ∧ Below w.heap.size w w' := by
  have h2 := parse_any s w E hs
  rw [h] at h2; exact h2
theorem rparseC {s : List UInt8} {t : Trn} {x : Int} (h : parT s = (t, x)) (w : World) (hs : s.length ≤ 5000) : Calls Tryd.prog 15 #[.string (bs s)] w fun e w' => e = .returned (.tuple #[trnA t, .int .i64 x]) ∧ Below w.heap.size w w' := by
  have h2 := rparse_any s w hs
  rw [h] at h2; exact h2
theorem par_name {s : List UInt8} {t : Trn} {x : Int} (h : parT s = (t, x)) (hs : s.length ≤ 5000) : t.name.length ≤ 64 := by
  by_cases hx : x = 0
  · subst hx
    have hp := par_prt h
    unfold prtT at hp
    split at hp
    · rename_i hc
      have := (chk_ok hc).1
      exact (wordB_len (name_word this)).2
    · rename_i hc
      exact absurd (Prod.mk.inj hp).2 hc
  · have hz : t = zT := by
      unfold parT at h
      split at h
      · split at h
        · rename_i l _
          unfold lineF at h
          split at h
          · unfold finT at h
            split at h
            · split at h
              · exact absurd (Prod.mk.inj h).2.symm hx
              · exact (Prod.mk.inj h).1.symm
            · exact (Prod.mk.inj h).1.symm
          · exact (Prod.mk.inj h).1.symm
        · exact (Prod.mk.inj h).1.symm
      · exact (Prod.mk.inj h).1.symm
    subst hz
    simp [zT]
set_option maxRecDepth 100000 in
set_option maxHeartbeats 8000000 in
theorem trainReads_walk (s : List UInt8) (w : World) (E : EnvR w) (hs : s.length ≤ maxLen) : Calls Tryd.prog 4 #[.string (bs s)] w (True1 w) := by
  by_cases hlong : 2000 < s.length
  · have hni : (s.length : Int) ≤ 9223372036854775807 := by unfold maxLen at hs; omega
    go_enter Tryd.func4, Tryd.ntmps4
    go_wp2_with fail
    refine (talive_any _ E).mono ?_
    rintro e w2 ⟨rfl, hb2⟩
    go_wp2_with fail
    go_ret
    exact ⟨rfl, hb2⟩
  · have hs2 : s.length ≤ 2000 := by omega
    cases hp : parT s with
    | mk t x =>
    have HP := Lib.hid fun (W : World) (E : EnvR W) => parseC hp W E (by omega)
    have HR := Lib.hid fun (W : World) => rparseC hp W (by omega)
    have heq : ∀ W, (Op.equalIn 10000 23 (trnA t) (trnA t)).run Tryd.prog W = .ok true W := fun W => by
      have h : decide (t = t) = true := decide_eq_true rfl
      rw [← h]; exact eq_trn W 9998 t t
    clear hp hs
    unfold trnA at HP HR heq
    go_enter Tryd.func4, Tryd.ntmps4
    go_wp2_with fail
    refine (HP.out _ E).mono ?_
    rintro e w1 ⟨rfl, hb1⟩
    have hts := TS.new w1 t w1.heap.size rfl
    have hB1 := hb1.alloc hb1.size (.cells #[.int .i64 t.id, .string (bs t.name), .int .i64 t.len, .int .i64 t.spd, .int .i64 t.acc, .int .i64 t.srv, .int .i64 t.emg, .int .i64 t.dly, .int .i64 t.cst, .int .i64 t.rate] 23)
    go_wp2_with fail
    refine (HR.out _).mono ?_
    rintro e w2 ⟨rfl, hb2⟩
    have hts2 := hts.now hb2
    have hB2 := bel_then hB1 hB1.size hb2
    have hB3 := hB2.alloc hB2.size (.cells #[.int .i64 t.id, .string (bs t.name), .int .i64 t.len, .int .i64 t.spd, .int .i64 t.acc, .int .i64 t.srv, .int .i64 t.emg, .int .i64 t.dly, .int .i64 t.cst, .int .i64 t.rate] 23)
    obtain ⟨q0, q1, q2, q3, q4, q5, q6, q7, q8, q9, q10, q11⟩ := id hts2
    go_wp2_with fail
    refine (talive_any _ (E.now hB3)).mono ?_
    rintro e w3 ⟨rfl, hb3⟩
    go_wp2_with fail
    go_ret
    exact ⟨rfl, bel_then hB3 hB3.size hb3⟩
end Go.Proofs.YtfmfadafpbnjoaaDoor
