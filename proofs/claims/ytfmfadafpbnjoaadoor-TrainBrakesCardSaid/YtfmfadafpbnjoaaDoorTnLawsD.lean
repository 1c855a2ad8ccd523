/- The walk of the law TrainMeasures. -/
import Derived.Test.YtfmfadafpbnjoaaDoorTnLawsA
namespace Go.Proofs.YtfmfadafpbnjoaaDoor
set_option linter.unusedVariables false
set_option linter.unusedSimpArgs false
open Go.RowKit
attribute [local go_sem] bs_size bs_get bs_append bs_extract bs_toList
attribute [-go_sem] run_equalIn_agg
def MI (w0 : World) (g : Nat) (A : Option Addr) (p : List Sgm) (w : World) : Prop := Below w0.heap.size w0 w ∧ g < w.heap.size ∧ RdS cG w (Lt w) A p
def MS (w0 : World) (g : Nat) (t : Trn) (A : Option Addr) (p : List Sgm) (w' : World) : Prop := w'.cell? ⟨g, 0, none⟩ = some (.int .i64 t.id) ∧ w'.cell? ⟨g, 1, none⟩ = some (.string (bs t.name)) ∧ w'.cell? ⟨g, 2, none⟩ = some (.int .i64 t.len) ∧ w'.cell? ⟨g, 3, none⟩ = some (.int .i64 t.spd) ∧ w'.cell? ⟨g, 4, none⟩ = some (.int .i64 t.acc) ∧ w'.cell? ⟨g, 5, none⟩ = some (.int .i64 t.srv) ∧ w'.cell? ⟨g, 6, none⟩ = some (.int .i64 t.emg) ∧ w'.cell? ⟨g, 7, none⟩ = some (.int .i64 t.dly) ∧ w'.cell? ⟨g, 8, none⟩ = some (.int .i64 t.cst) ∧ w'.cell? ⟨g, 9, none⟩ = some (.int .i64 t.rate) ∧ MI w0 g A p w'
theorem MS.now {w0 w w' : World} {g : Nat} {t : Trn} {A : Option Addr} {p : List Sgm} (h : MS w0 g t A p w) (hb : Below w.heap.size w w') : MS w0 g t A p w' := by
  obtain ⟨h0, h1, h2, h3, h4, h5, h6, h7, h8, h9, h10, h11, h12⟩ := h
  have k : ∀ q, w'.cell? ⟨g, q, none⟩ = w.cell? ⟨g, q, none⟩ := fun q => hb.cell (p := ⟨g, q, none⟩) h11
  exact ⟨(k 0).trans h0, (k 1).trans h1, (k 2).trans h2, (k 3).trans h3, (k 4).trans h4, (k 5).trans h5, (k 6).trans h6, (k 7).trans h7, (k 8).trans h8, (k 9).trans h9, bel_then h10 h10.size hb, Nat.lt_of_lt_of_le h11 hb.size, h12.now hb⟩
theorem ms_drew {w0 w : World} {g : Nat} {t : Trn} {A : Option Addr} {p : List Sgm} (h : MS w0 g t A p w) : MS w0 g t A p w.drew := h.now (Below.refl _ _).drew
theorem msi {w0 w : World} {g : Nat} {t : Trn} {A : Option Addr} {p : List Sgm} (h : MS w0 g t A p w) : MI w0 g A p w := h.2.2.2.2.2.2.2.2.2.2
theorem MS.of {w0 w : World} {g : Nat} {t : Trn} {A : Option Addr} {p : List Sgm} (h : TS w0 g t w) (hr : RdS cG w (Lt w) A p) : MS w0 g t A p w := by
  obtain ⟨h0, h1, h2, h3, h4, h5, h6, h7, h8, h9, h10, h11⟩ := h
  exact ⟨h0, h1, h2, h3, h4, h5, h6, h7, h8, h9, h10, h11, hr⟩
set_option maxRecDepth 100000 in
set_option maxHeartbeats 8000000 in
theorem trainMeasures_walk (t : Trn) (p : List Sgm) (A : Option Addr) (cap : Nat) (f u m : Int) (w : World) (E : EnvR w) (ht : trnO t) (hr : RdS cG w (Lt w) A p) (ho : p.length ≤ maxLen ∧ p.length ≤ cap) (hf : I64n f) (hu : I64n u) (hm : I64n m) : Calls Tryd.prog 5 #[trnA t, .slice A p.length cap, .int .i64 f, .int .i64 u, .int .i64 m] w (True1 w) := by
  have hn := ht.2
  have hts := TS.new w t w.heap.size rfl
  obtain ⟨hl, hcap⟩ := ho
  have hli : (p.length : Int) ≤ 9223372036854775807 := by unfold maxLen at hl; omega
  by_cases h2 : 200 < p.length
  · unfold trnA
    go_enter Tryd.func5, Tryd.ntmps5
    go_wp2_with fail
    refine (talive_any _ (E.now hts.bel)).mono ?_
    rintro e w2 ⟨rfl, hb2⟩
    go_wp2_with fail
    go_ret
    exact ⟨rfl, (hts.now hb2).bel⟩
  · have hl2 : p.length ≤ 200 := by omega
    have hl3 : ¬ (200 : Int) < (p.length : Int) := by omega
    obtain ⟨c, hc⟩ : ∃ c, chkF t = c := ⟨_, rfl⟩
    have HC := Lib.hid fun (W : World) => rcheckC hc W hn
    by_cases hc0 : c = 0
    · subst hc0
      obtain ⟨v, hv⟩ : ∃ v, weakF t p f u = v := ⟨_, rfl⟩
      obtain ⟨x, hx⟩ : ∃ x, errT t m = x := ⟨_, rfl⟩
      have hm1 := MS.of hts (hr.now ((Below.refl _ _).alloc (Nat.le_refl _) _))
      have HW := Lib.hid fun (W : World) (h : RdS cG W (Lt W) A p) => hv ▸ weakest_any t p A cap f u W h hl
      have HV := Lib.hid fun (W : World) (h : RdS cG W (Lt W) A p) => hv ▸ rweakest_any t p A cap f u W h (by omega)
      have HX := Lib.hid fun (W : World) => hx ▸ error_any t hc m W hm
      have HY := Lib.hid fun (W : World) => hx ▸ rerror_any t hc m W hm
      clear hv hx hc ht hr hts
      unfold trnA at HC HW HV HX HY ⊢
      go_enter Tryd.func5, Tryd.ntmps5
      go_wp2_with fail
      refine (HC.out _).mono ?_
      rintro e w2 ⟨rfl, hb2⟩
      have hm2 := hm1.now hb2
      clear hm1 hb2
      generalize hgg : w.heap.size = g at hm2
      go_wp2_with fail
      go_region_held3 (fun w' => w'.cell? ⟨g, 0, none⟩ = some (.int .i64 t.id) ∧ w'.cell? ⟨g, 1, none⟩ = some (.string (bs t.name)) ∧ w'.cell? ⟨g, 2, none⟩ = some (.int .i64 t.len) ∧ w'.cell? ⟨g, 3, none⟩ = some (.int .i64 t.spd) ∧ w'.cell? ⟨g, 4, none⟩ = some (.int .i64 t.acc) ∧ w'.cell? ⟨g, 5, none⟩ = some (.int .i64 t.srv) ∧ w'.cell? ⟨g, 6, none⟩ = some (.int .i64 t.emg) ∧ w'.cell? ⟨g, 7, none⟩ = some (.int .i64 t.dly) ∧ w'.cell? ⟨g, 8, none⟩ = some (.int .i64 t.cst) ∧ w'.cell? ⟨g, 9, none⟩ = some (.int .i64 t.rate) ∧ MI w g A p w') (first | assumption | exact ms_drew ‹_› | (refine MS.now ‹_› ?_; assumption)) (first
        | (go_at_call 16; refine (HW.out _ (msi (by assumption)).2.2).mono ?_; rintro e wq ⟨rfl, hq⟩)
        | (go_at_call 17; refine (HV.out _ (msi (by assumption)).2.2).mono ?_; rintro e wq ⟨rfl, hq⟩)
        | (go_at_call 18; refine (HX.out _).mono ?_; rintro e wq ⟨rfl, hq⟩)
        | (go_at_call 19; refine (HY.out _).mono ?_; rintro e wq ⟨rfl, hq⟩)
        | (go_at_call 9; refine (talive_any _ (E.now (msi (by assumption)).1)).mono ?_; rintro e wq ⟨rfl, hq⟩))
      all_goals (go_wp2_with fail)
      all_goals (go_ret; exact ⟨rfl, (msi (by assumption)).1⟩)
    · have hcb : (c != 0) = true := by simpa using hc0
      clear hc ht hc0
      unfold trnA at HC ⊢
      go_enter Tryd.func5, Tryd.ntmps5
      go_wp2_with fail
      refine (HC.out _).mono ?_
      rintro e w2 ⟨rfl, hb2⟩
      have hts2 := hts.now hb2
      go_wp2_with fail
      refine (talive_any _ (E.now hts2.bel)).mono ?_
      rintro e w3 ⟨rfl, hb3⟩
      go_wp2_with fail
      go_ret
      exact ⟨rfl, (hts2.now hb3).bel⟩
end Go.Proofs.YtfmfadafpbnjoaaDoor
