/- The walks of the weakest brakes. -/
import Derived.Test.YtfmfadafpbnjoaaDoorTnWalksH
namespace Go.Proofs.YtfmfadafpbnjoaaDoor
set_option linter.unusedVariables false
set_option linter.unusedSimpArgs false
open Go.RowKit
attribute [local go_sem] bs_size bs_get bs_append bs_extract bs_toList
def WI (w0 : World) (g : Nat) (A : Option Addr) (p : List Sgm) (w : World) : Prop := RdS cG w (Lt w) A p ∧ Below w0.heap.size w0 w ∧ g < w.heap.size
def WS (w0 : World) (g : Nat) (e : Int) (A : Option Addr) (p : List Sgm) (w' : World) : Prop := w'.cell? ⟨g, 6, none⟩ = some (.int .i64 e) ∧ WI w0 g A p w'
theorem WS.now {w0 w w' : World} {g : Nat} {e : Int} {A : Option Addr} {p : List Sgm} (h : WS w0 g e A p w) (hb : Below w.heap.size w w') : WS w0 g e A p w' := by
  obtain ⟨h1, h2, h3, h4⟩ := h
  exact ⟨(hb.cell (p := ⟨g, 6, none⟩) h4).trans h1, h2.now hb, bel_then h3 h3.size hb, Nat.lt_of_lt_of_le h4 hb.size⟩
theorem ws_drew {w0 w : World} {g : Nat} {e : Int} {A : Option Addr} {p : List Sgm} (h : WS w0 g e A p w) : WS w0 g e A p w.drew := h.now (Below.refl _ _).drew
theorem wsi {w0 w : World} {g : Nat} {e : Int} {A : Option Addr} {p : List Sgm} (h : WS w0 g e A p w) : WI w0 g A p w := h.2
set_option maxRecDepth 100000 in
set_option maxHeartbeats 4000000 in
theorem weakest_any (t : Trn) (p : List Sgm) (A : Option Addr) (cap : Nat) (f u : Int) (w : World) (hr : RdS cG w (Lt w) A p) (hl : p.length ≤ maxLen) :
    Calls Tryd.prog 16 #[trnA t, .slice A p.length cap, .int .i64 f, .int .i64 u] w fun e w' => e = .returned (.int .i64 (weakF t p f u)) ∧ Below w.heap.size w w' := by
  have hts := TS.new w t w.heap.size rfl
  have hws : WS w w.heap.size t.emg A p (w.alloc (.cells #[.int .i64 t.id, .string (bs t.name), .int .i64 t.len, .int .i64 t.spd, .int .i64 t.acc, .int .i64 t.srv, .int .i64 t.emg, .int .i64 t.dly, .int .i64 t.cst, .int .i64 t.rate] 23)) := ⟨hts.2.2.2.2.2.2.1, hr.now ((Below.refl _ _).alloc (Nat.le_refl _) _), hts.bel, hts.2.2.2.2.2.2.2.2.2.2.2⟩
  have HW : Hid (weakF t p f u = effF t.emg (steepF p f u)) := Lib.hid rfl
  have HS := Lib.hid fun (W : World) (h : RdS cG W (Lt W) A p) => steepest_any p A cap f u W h hl
  unfold trnA
  generalize steepF p f u = sp at *
  clear hts hr
  go_enter Tryd.func16, Tryd.ntmps16
  go_upto_region 1 with (fail)
  generalize w.alloc (.cells #[.int .i64 t.id, .string (bs t.name), .int .i64 t.len, .int .i64 t.spd, .int .i64 t.acc, .int .i64 t.srv, .int .i64 t.emg, .int .i64 t.dly, .int .i64 t.cst, .int .i64 t.rate] 23) = w0 at *
  generalize hgg : w.heap.size = g at hws ⊢
  go_region_held3 (fun w' => w'.cell? ⟨g, 6, none⟩ = some (.int .i64 t.emg) ∧ WI w g A p w') (first | assumption | exact ws_drew ‹_› | (refine WS.now ‹_› ?_; assumption)) (first
    | (go_at_call 35; refine (HS.out _ (wsi (by assumption)).1).mono ?_; rintro e wq ⟨rfl, hq⟩)
    | (go_at_call 21; refine (effective_any _ _ _).mono ?_; rintro e wq ⟨rfl, rfl⟩))
  all_goals (go_wp2_with fail)
  all_goals (go_ret; exact ⟨ret_iT HW.out.symm, by rw [hgg]; exact hgg ▸ (wsi (by assumption)).2.1⟩)
set_option maxRecDepth 100000 in
set_option maxHeartbeats 4000000 in
theorem rweakest_any (t : Trn) (p : List Sgm) (A : Option Addr) (cap : Nat) (f u : Int) (w : World) (hr : RdS cG w (Lt w) A p) (hl : p.length ≤ 1000) :
    Calls Tryd.prog 17 #[trnA t, .slice A p.length cap, .int .i64 f, .int .i64 u] w fun e w' => e = .returned (.int .i64 (weakF t p f u)) ∧ Below w.heap.size w w' := by
  have hts := TS.new w t w.heap.size rfl
  have hws : WS w w.heap.size t.emg A p (w.alloc (.cells #[.int .i64 t.id, .string (bs t.name), .int .i64 t.len, .int .i64 t.spd, .int .i64 t.acc, .int .i64 t.srv, .int .i64 t.emg, .int .i64 t.dly, .int .i64 t.cst, .int .i64 t.rate] 23)) := ⟨hts.2.2.2.2.2.2.1, hr.now ((Below.refl _ _).alloc (Nat.le_refl _) _), hts.bel, hts.2.2.2.2.2.2.2.2.2.2.2⟩
  have HW : Hid (weakF t p f u = effF t.emg (steepF p f u)) := Lib.hid rfl
  have HS := Lib.hid fun (W : World) (h : RdS cG W (Lt W) A p) => rsteepest_any p A cap f u W h hl
  unfold trnA
  generalize steepF p f u = sp at *
  clear hts hr
  go_enter Tryd.func17, Tryd.ntmps17
  go_upto_region 1 with (fail)
  generalize w.alloc (.cells #[.int .i64 t.id, .string (bs t.name), .int .i64 t.len, .int .i64 t.spd, .int .i64 t.acc, .int .i64 t.srv, .int .i64 t.emg, .int .i64 t.dly, .int .i64 t.cst, .int .i64 t.rate] 23) = w0 at *
  generalize hgg : w.heap.size = g at hws ⊢
  go_region_held3 (fun w' => w'.cell? ⟨g, 6, none⟩ = some (.int .i64 t.emg) ∧ WI w g A p w') (first | assumption | exact ws_drew ‹_› | (refine WS.now ‹_› ?_; assumption)) (first
    | (go_at_call 37; refine (HS.out _ (wsi (by assumption)).1).mono ?_; rintro e wq ⟨rfl, hq⟩)
    | (go_at_call 36; refine (reffective_any _ _ _).mono ?_; rintro e wq ⟨rfl, rfl⟩))
  all_goals (go_wp2_with fail)
  all_goals (go_ret; exact ⟨ret_iT HW.out.symm, by rw [hgg]; exact hgg ▸ (wsi (by assumption)).2.1⟩)
end Go.Proofs.YtfmfadafpbnjoaaDoor
