/- The walks of the laws TrainChecks, TrainErrors, TrainRoundTrips. -/
import Derived.Test.YtfmfadafpbnjoaaDoorTnAlive
import Derived.Test.YtfmfadafpbnjoaaDoorTnCodT
namespace Go.Proofs.YtfmfadafpbnjoaaDoor
set_option linter.unusedVariables false
set_option linter.unusedSimpArgs false
open Go.RowKit
attribute [local go_sem] bs_size bs_get bs_append bs_extract bs_toList
attribute [-go_sem] run_equalIn_agg
def True1 (w : World) (e : Ending) (w' : World) : Prop := e = .returned (.bool true) ∧ Below w.heap.size w w'
theorem printC {t : Trn} {a : List UInt8} {x : Int} (h : prtT t = (a, x)) (w : World) (E : Env w) (hn : t.name.length ≤ maxLen) :
    Calls Tryd.prog 10 #[trnA t] w fun e w' => e = .returned (.tuple #[.string (bs a), .int .i64 x]) ∧ Below w.heap.size w w' := by
  have h2 := print_any t w E hn
  rw [h] at h2; exact h2
theorem rprintC {t : Trn} {a : List UInt8} {x : Int} (h : prtT t = (a, x)) (w : World) (hn : t.name.length ≤ maxLen) :
    Calls Tryd.prog 11 #[trnA t] w fun e w' => e = .returned (.tuple #[.string (bs a), .int .i64 x]) ∧ Below w.heap.size w w' := by
  have h2 := rprint_any t w hn
  rw [h] at h2; exact h2
set_option maxRecDepth 100000 in
set_option maxHeartbeats 8000000 in
theorem trainChecks_walk (t : Trn) (w : World) (E : EnvR w) (ht : trnO t) : Calls Tryd.prog 3 #[trnA t] w (True1 w) := by
  have hn := ht.2
  have hts := TS.new w t w.heap.size rfl
  by_cases hlong : 1000 < t.name.length
  · have hni : (t.name.length : Int) ≤ 9223372036854775807 := by unfold maxLen at hn; omega
    unfold trnA
    go_enter Tryd.func3, Tryd.ntmps3
    go_wp2_with fail
    refine (talive_any _ (E.now hts.bel)).mono ?_
    rintro e w2 ⟨rfl, hb2⟩
    go_wp2_with fail
    go_ret
    exact ⟨rfl, (hts.now hb2).bel⟩
  · cases hp : prtT t with
    | mk a x =>
    obtain ⟨c, hc⟩ : ∃ c, chkF t = c := ⟨_, rfl⟩
    have HP := Lib.hid fun (W : World) (E : Env W) => printC hp W E hn
    have HR := Lib.hid fun (W : World) => rprintC hp W hn
    have HC := Lib.hid fun (W : World) => checkC hc W hn
    have HD := Lib.hid fun (W : World) => rcheckC hc W hn
    clear hp hc ht
    unfold maxLen at hn
    unfold trnA at HP HR HC HD ⊢
    go_enter Tryd.func3, Tryd.ntmps3
    go_wp2_with fail
    refine (HP.out _ (E.toEnv.now hts.bel)).mono ?_
    rintro e w2 ⟨rfl, hb2⟩
    have hts2 := hts.now hb2
    clear hts hb2
    obtain ⟨q0, q1, q2, q3, q4, q5, q6, q7, q8, q9, q10, q11⟩ := id hts2
    go_wp2_with fail
    refine (HR.out _).mono ?_
    rintro e w3 ⟨rfl, hb3⟩
    have hts3 := hts2.now hb3
    clear hts2 hb3 q0 q1 q2 q3 q4 q5 q6 q7 q8 q9 q10 q11
    generalize hgg : w.heap.size = g at hts3
    have HA := Lib.hid fun (W : World) (h : TS w g t W) => talive_any W (E.now h.bel)
    go_wp2_with fail
    go_region_held3 (fun w' => w'.cell? ⟨g, 0, none⟩ = some (.int .i64 t.id) ∧ w'.cell? ⟨g, 1, none⟩ = some (.string (bs t.name)) ∧ w'.cell? ⟨g, 2, none⟩ = some (.int .i64 t.len) ∧ w'.cell? ⟨g, 3, none⟩ = some (.int .i64 t.spd) ∧ w'.cell? ⟨g, 4, none⟩ = some (.int .i64 t.acc) ∧ w'.cell? ⟨g, 5, none⟩ = some (.int .i64 t.srv) ∧ w'.cell? ⟨g, 6, none⟩ = some (.int .i64 t.emg) ∧ w'.cell? ⟨g, 7, none⟩ = some (.int .i64 t.dly) ∧ w'.cell? ⟨g, 8, none⟩ = some (.int .i64 t.cst) ∧ w'.cell? ⟨g, 9, none⟩ = some (.int .i64 t.rate) ∧ (Below w.heap.size w w' ∧ g < w'.heap.size)) (first | assumption | exact ts_drew ‹_› | (refine TS.now ‹_› ?_; assumption)) (first
      | (go_at_call 12; refine (HC.out _).mono ?_; rintro e wq ⟨rfl, hq⟩)
      | (go_at_call 13; refine (HD.out _).mono ?_; rintro e wq ⟨rfl, hq⟩)
      | (go_at_call 9; refine (HA.out _ (by assumption)).mono ?_; rintro e wq ⟨rfl, hq⟩))
    all_goals (go_wp2_with fail)
    all_goals (go_ret; exact ⟨rfl, TS.bel (by assumption)⟩)
end Go.Proofs.YtfmfadafpbnjoaaDoor
