/- The chapter's examples hold. -/
import Derived.Test.YtfmfadafpbnjoaaDoorTnWalksI
import Derived.Test.YtfmfadafpbnjoaaDoorTnParse
import Derived.Test.YtfmfadafpbnjoaaDoorTnPrintR
import Derived.Deep.RegionHeld3
import Derived.Deep.Cut
namespace Go.Proofs.YtfmfadafpbnjoaaDoor
set_option linter.unusedVariables false
set_option linter.unusedSimpArgs false
open Go.RowKit
attribute [local go_sem] bs_size bs_get bs_append bs_extract bs_toList
def tE : Trn := ⟨7, [110, 55], 20000, 3000, 50, 60, 100, 1, 20, 10⟩
def tA : Trn := ⟨0, [97], 0, 0, 0, 0, 0, 0, 0, 0⟩
@[irreducible] def sE : List UInt8 := [116, 114, 97, 105, 110, 32, 55, 32, 110, 55, 32, 50, 48, 48, 48, 48, 32, 51, 48, 48, 48, 32, 53, 48, 32, 54, 48, 32, 49, 48, 48, 32, 49, 32, 50, 48, 32, 49, 48]
def sB : List UInt8 := [116, 114, 97, 105, 110, 32, 55, 32, 110, 55]
theorem chkE : chkF tE = 0 := by decide
theorem chkA : chkF tA = 1 := by decide
theorem dec1 (u : Nat) (h : u < 10) : Lib.decDigits u = [UInt8.ofNat (48 + u)] := by rw [Lib.decDigits, dif_pos h]
theorem dec2 (u : Nat) (h : ¬ u < 10) : Lib.decDigits u = Lib.decDigits (u / 10) ++ [UInt8.ofNat (48 + u % 10)] := by rw [Lib.decDigits, dif_neg h]
theorem it (n : Nat) : Lib.itoa (n : Int) = Lib.decDigits n := by
  rw [Lib.itoa, if_neg (by omega)]
  simp
theorem prtE : prtT tE = (sE, 0) := by
  rw [prt_yes chkE]
  have e1 : Lib.itoa 7 = [55] := by rw [show (7 : Int) = ((7 : Nat) : Int) from rfl, it, dec1 7 (by omega)]; rfl
  have e2 : Lib.itoa 20000 = [50, 48, 48, 48, 48] := by rw [show (20000 : Int) = ((20000 : Nat) : Int) from rfl, it, dec2 20000 (by omega), dec2 _ (by omega), dec2 _ (by omega), dec2 _ (by omega), dec1 _ (by omega)]; rfl
  have e3 : Lib.itoa 3000 = [51, 48, 48, 48] := by rw [show (3000 : Int) = ((3000 : Nat) : Int) from rfl, it, dec2 3000 (by omega), dec2 _ (by omega), dec2 _ (by omega), dec1 _ (by omega)]; rfl
  have e4 : Lib.itoa 50 = [53, 48] := by rw [show (50 : Int) = ((50 : Nat) : Int) from rfl, it, dec2 50 (by omega), dec1 _ (by omega)]; rfl
  have e5 : Lib.itoa 60 = [54, 48] := by rw [show (60 : Int) = ((60 : Nat) : Int) from rfl, it, dec2 60 (by omega), dec1 _ (by omega)]; rfl
  have e6 : Lib.itoa 100 = [49, 48, 48] := by rw [show (100 : Int) = ((100 : Nat) : Int) from rfl, it, dec2 100 (by omega), dec2 _ (by omega), dec1 _ (by omega)]; rfl
  have e7 : Lib.itoa 1 = [49] := by rw [show (1 : Int) = ((1 : Nat) : Int) from rfl, it, dec1 1 (by omega)]; rfl
  have e8 : Lib.itoa 20 = [50, 48] := by rw [show (20 : Int) = ((20 : Nat) : Int) from rfl, it, dec2 20 (by omega), dec1 _ (by omega)]; rfl
  have e9 : Lib.itoa 10 = [49, 48] := by rw [show (10 : Int) = ((10 : Nat) : Int) from rfl, it, dec2 10 (by omega), dec1 _ (by omega)]; rfl
  have hw : wordsT tE = [trainW, [55], [110, 55], [50, 48, 48, 48, 48], [51, 48, 48, 48], [53, 48], [54, 48], [49, 48, 48], [49], [50, 48], [49, 48]] := by
    simp only [wordsT, restN, tE, List.map_cons, List.map_nil, e1, e2, e3, e4, e5, e6, e7, e8, e9]
  rw [hw]
  unfold sE
  rfl
theorem parE : parT sE = (tE, 0) := by
  have h := (prt_par chkE).1
  have e : Lib.join (wordsT tE) [32] = sE := by
    have := prtE
    rw [prt_yes chkE] at this
    exact (Prod.mk.inj this).1
  rwa [e] at h
theorem parB : parT sB = (zT, 4) := by
  have hj : joinF [[trainW, [55], [110, 55]]] = (sB ++ [10], 0) := by decide +kernel
  have hl := lines_join hj
  rw [par_line (l := [trainW, [55], [110, 55]]) (n := 0) hl]
  exact line_no (Or.inl (by decide))
theorem errE : errT tE 2500 = 45 := by decide
def gE : List Sgm := [⟨0, 100, 0, 100⟩]
theorem weakE : weakF tE gE 0 100 = 100 := by decide
theorem parseE (w : World) (E : EnvR w) : Calls Tryd.prog 14 #[.string { data := #[116, 114, 97, 105, 110, 32, 55, 32, 110, 55, 32, 50, 48, 48, 48, 48, 32, 51, 48, 48, 48, 32, 53, 48, 32, 54, 48, 32, 49, 48, 48, 32, 49, 32, 50, 48, 32, 49, 48] }] w fun e w' => e = .returned (.tuple #[.agg #[.int .i64 7, .string (bs [110, 55]), .int .i64 20000, .int .i64 3000, .int .i64 50, .int .i64 60, .int .i64 100, .int .i64 1, .int .i64 20, .int .i64 10], .int .i64 0]) ∧ Below w.heap.size w w' := by
  have h := parse_any sE w E (by unfold sE; decide)
  rw [parE] at h
  unfold sE at h
  exact h
theorem parseB (w : World) (E : EnvR w) : Calls Tryd.prog 14 #[.string { data := #[116, 114, 97, 105, 110, 32, 55, 32, 110, 55] }] w fun e w' => e = .returned (.tuple #[.agg #[.int .i64 0, .string (bs []), .int .i64 0, .int .i64 0, .int .i64 0, .int .i64 0, .int .i64 0, .int .i64 0, .int .i64 0, .int .i64 0], .int .i64 4]) ∧ Below w.heap.size w w' := by
  have h := parse_any sB w E (by decide)
  rw [parB] at h
  exact h
theorem printE (w : World) (E : Env w) : Calls Tryd.prog 10 #[.agg #[.int .i64 7, .string { data := #[110, 55] }, .int .i64 20000, .int .i64 3000, .int .i64 50, .int .i64 60, .int .i64 100, .int .i64 1, .int .i64 20, .int .i64 10]] w fun e w' => e = .returned (.tuple #[.string { data := #[116, 114, 97, 105, 110, 32, 55, 32, 110, 55, 32, 50, 48, 48, 48, 48, 32, 51, 48, 48, 48, 32, 53, 48, 32, 54, 48, 32, 49, 48, 48, 32, 49, 32, 50, 48, 32, 49, 48] }, .int .i64 0]) ∧ Below w.heap.size w w' := by
  have h := print_any tE w E (by unfold maxLen; decide)
  rw [prtE] at h
  unfold sE at h
  exact h
theorem errorE (w : World) : Calls Tryd.prog 18 #[.agg #[.int .i64 7, .string (bs [110, 55]), .int .i64 20000, .int .i64 3000, .int .i64 50, .int .i64 60, .int .i64 100, .int .i64 1, .int .i64 20, .int .i64 10], .int .i64 2500] w fun e w' => e = .returned (.int .i64 45) ∧ Below w.heap.size w w' := by
  have h := error_any tE chkE 2500 w ⟨by decide, by decide⟩
  rw [errE] at h
  exact h
theorem weakE_any (w : World) (A : Option Addr) (hr : RdS cG w (Lt w) A gE) : Calls Tryd.prog 16 #[.agg #[.int .i64 7, .string (bs [110, 55]), .int .i64 20000, .int .i64 3000, .int .i64 50, .int .i64 60, .int .i64 100, .int .i64 1, .int .i64 20, .int .i64 10], .slice A 1 1, .int .i64 0, .int .i64 100] w fun e w' => e = .returned (.int .i64 100) ∧ Below w.heap.size w w' := by
  have h := weakest_any tE gE A 1 0 100 w hr (by unfold maxLen; decide)
  rw [weakE] at h
  exact h
theorem checkA (w : World) : Calls Tryd.prog 12 #[.agg #[.int .i64 0, .string { data := #[97] }, .int .i64 0, .int .i64 0, .int .i64 0, .int .i64 0, .int .i64 0, .int .i64 0, .int .i64 0, .int .i64 0]] w fun e w' => e = .returned (.int .i64 1) ∧ Below w.heap.size w w' := by
  have h := check_any tA w (by unfold maxLen; decide)
  rw [chkA] at h
  exact h
set_option maxHeartbeats 1000000 in
theorem exampleE (w : World) : Calls Tryd.prog 22 #[] w fun e w' => e = .returned (.agg #[.int .i64 7, .string { data := #[110, 55] }, .int .i64 20000, .int .i64 3000, .int .i64 50, .int .i64 60, .int .i64 100, .int .i64 1, .int .i64 20, .int .i64 10]) ∧ Below w.heap.size w w' := by
  go_enter Tryd.func22, Tryd.ntmps22
  go_wp2_with fail
  exact bodyPost_ret (v := .agg #[.int .i64 7, .string { data := #[110, 55] }, .int .i64 20000, .int .i64 3000, .int .i64 50, .int .i64 60, .int .i64 100, .int .i64 1, .int .i64 20, .int .i64 10]) (by simp [results, Tryd.results22, go_sem]) rfl ⟨rfl, by (repeat' (first | (with_reducible exact Below.refl _ _) | (with_reducible assumption) | (with_reducible refine Below.drewN ?_ _) | (with_reducible refine Below.drew ?_) | (with_reducible refine Below.alloc ?_ ?_ _) | (with_reducible refine Below.setCell ?_ ?_ _) | (with_reducible exact Nat.le_refl _) | (with_reducible exact Below.size (by assumption)) | omega | (simp only [World.size_alloc, World.size_setCell, World.size_drew]; omega) | (simp; done) | (simp; omega)))⟩
def AI (w0 : World) (g g2 : Nat) (w : World) : Prop := Below w0.heap.size w0 w ∧ g < w.heap.size ∧ RdS cG w (Lt w) (some ⟨g2, 0, none⟩) gE
def AV (w0 : World) (g g2 : Nat) (w' : World) : Prop := w'.cell? ⟨g, 0, none⟩ = some (.int .i64 7) ∧ w'.cell? ⟨g, 1, none⟩ = some (.string (bs [110, 55])) ∧ w'.cell? ⟨g, 2, none⟩ = some (.int .i64 20000) ∧ w'.cell? ⟨g, 3, none⟩ = some (.int .i64 3000) ∧ w'.cell? ⟨g, 4, none⟩ = some (.int .i64 50) ∧ w'.cell? ⟨g, 5, none⟩ = some (.int .i64 60) ∧ w'.cell? ⟨g, 6, none⟩ = some (.int .i64 100) ∧ w'.cell? ⟨g, 7, none⟩ = some (.int .i64 1) ∧ w'.cell? ⟨g, 8, none⟩ = some (.int .i64 20) ∧ w'.cell? ⟨g, 9, none⟩ = some (.int .i64 10) ∧ AI w0 g g2 w'
theorem AV.now {w0 w w' : World} {g g2 : Nat} (h : AV w0 g g2 w) (hb : Below w.heap.size w w') : AV w0 g g2 w' := by
  obtain ⟨h0, h1, h2, h3, h4, h5, h6, h7, h8, h9, h10, h11, h12⟩ := h
  have k : ∀ q, w'.cell? ⟨g, q, none⟩ = w.cell? ⟨g, q, none⟩ := fun q => hb.cell (p := ⟨g, q, none⟩) h11
  exact ⟨(k 0).trans h0, (k 1).trans h1, (k 2).trans h2, (k 3).trans h3, (k 4).trans h4, (k 5).trans h5, (k 6).trans h6, (k 7).trans h7, (k 8).trans h8, (k 9).trans h9, bel_then h10 h10.size hb, Nat.lt_of_lt_of_le h11 hb.size, h12.now hb⟩
theorem av_drew {w0 w : World} {g g2 : Nat} (h : AV w0 g g2 w) : AV w0 g g2 w.drew := h.now (Below.refl _ _).drew
theorem avi {w0 w : World} {g g2 : Nat} (h : AV w0 g g2 w) : AI w0 g g2 w := h.2.2.2.2.2.2.2.2.2.2
attribute [-go_sem] run_equalIn_agg
set_option maxRecDepth 100000 in
set_option maxHeartbeats 8000000 in
theorem talive_any (w : World) (E : EnvR w) : Calls Tryd.prog 9 #[] w fun e w' => e = .returned (.bool true) ∧ Below w.heap.size w w' := by
  have heq : ∀ W, (Op.equalIn 10000 23 (.agg #[.int .i64 7, .string (bs [110, 55]), .int .i64 20000, .int .i64 3000, .int .i64 50, .int .i64 60, .int .i64 100, .int .i64 1, .int .i64 20, .int .i64 10]) (.agg #[.int .i64 7, .string { data := #[110, 55] }, .int .i64 20000, .int .i64 3000, .int .i64 50, .int .i64 60, .int .i64 100, .int .i64 1, .int .i64 20, .int .i64 10])).run Tryd.prog W = .ok true W := fun W => eq_trn W 9998 tE tE
  go_enter Tryd.func9, Tryd.ntmps9
  go_wp2_with fail
  refine (parseE _ E).mono ?_
  rintro e w1 ⟨rfl, hb1⟩
  have hB1 := hb1.alloc hb1.size (.cells #[.int .i64 7, .string (bs [110, 55]), .int .i64 20000, .int .i64 3000, .int .i64 50, .int .i64 60, .int .i64 100, .int .i64 1, .int .i64 20, .int .i64 10] 23)
  have hblk : Blk (w1.alloc (.cells #[.int .i64 7, .string (bs [110, 55]), .int .i64 20000, .int .i64 3000, .int .i64 50, .int .i64 60, .int .i64 100, .int .i64 1, .int .i64 20, .int .i64 10] 23)) w1.heap.size 23 #[.int .i64 7, .string (bs [110, 55]), .int .i64 20000, .int .i64 3000, .int .i64 50, .int .i64 60, .int .i64 100, .int .i64 1, .int .i64 20, .int .i64 10] := Blk.new _ _ _ _ rfl
  go_wp2_with fail
  refine (exampleE _).mono ?_
  rintro e w2 ⟨rfl, hb2⟩
  have hB2 := bel_then hB1 hB1.size hb2
  have hblk2 := hblk.now hb2
  go_wp2_with fail
  refine (printE _ (E.toEnv.now hB2)).mono ?_
  rintro e w3 ⟨rfl, hb3⟩
  have hB3 := bel_then hB2 hB2.size hb3
  have hblk3 := hblk2.now hb3
  go_wp2_with fail
  refine (parseB _ (E.now hB3)).mono ?_
  rintro e w4 ⟨rfl, hb4⟩
  have hB4 := bel_then hB3 hB3.size hb4
  have hblk4 := hblk3.now hb4
  clear hb1 hB1 hblk hb2 hB2 hblk2 hb3 hB3 hblk3 hb4
  generalize w1.heap.size = g at *
  go_upto_region 5 with (fail)
  have hal5 := (Below.refl w4.heap.size w4).alloc (Nat.le_refl _) (.cells #[.int .i64 0, .string (bs []), .int .i64 0, .int .i64 0, .int .i64 0, .int .i64 0, .int .i64 0, .int .i64 0, .int .i64 0, .int .i64 0] 23)
  have hal6 := hal5.alloc hal5.size (.cells #[.int .i64 0, .int .i64 100, .int .i64 0, .int .i64 100] 39)
  have hseg : RdS cG ((w4.alloc (.cells #[.int .i64 0, .string (bs []), .int .i64 0, .int .i64 0, .int .i64 0, .int .i64 0, .int .i64 0, .int .i64 0, .int .i64 0, .int .i64 0] 23)).alloc (.cells #[.int .i64 0, .int .i64 100, .int .i64 0, .int .i64 100] 39)) (Lt ((w4.alloc (.cells #[.int .i64 0, .string (bs []), .int .i64 0, .int .i64 0, .int .i64 0, .int .i64 0, .int .i64 0, .int .i64 0, .int .i64 0, .int .i64 0] 23)).alloc (.cells #[.int .i64 0, .int .i64 100, .int .i64 0, .int .i64 100] 39))) (some ⟨w4.heap.size + 1, 0, none⟩) gE := by
    refine fun _ => ⟨_, 0, rfl, by unfold Lt; simp, fun i x hi => ?_⟩
    obtain ⟨h1, h2⟩ := List.getElem?_eq_some_iff.1 hi
    have h0 : i = 0 := by simp [gE] at h1; omega
    subst h0
    obtain rfl : x = (⟨0, 100, 0, 100⟩ : Sgm) := h2.symm
    refine ⟨sgmV ⟨0, 100, 0, 100⟩, ⟨rfl, ⟨by decide, by decide⟩, ⟨by decide, by decide⟩, ⟨by decide, by decide⟩, ⟨by decide, by decide⟩⟩, fun j u hu => ?_⟩
    rw [World.cell?_alloc_at _ _ _ _ (by simp)]
    have e : 0 + 0 * cG.size + j = j := by omega
    rw [e, ← Array.getElem?_toList]
    exact hu
  have hAV : AV w g (w4.heap.size + 1) ((w4.alloc (.cells #[.int .i64 0, .string (bs []), .int .i64 0, .int .i64 0, .int .i64 0, .int .i64 0, .int .i64 0, .int .i64 0, .int .i64 0, .int .i64 0] 23)).alloc (.cells #[.int .i64 0, .int .i64 100, .int .i64 0, .int .i64 100] 39)) := by
    have hk := hblk4.now hal6
    exact ⟨hk.cell 0, hk.cell 1, hk.cell 2, hk.cell 3, hk.cell 4, hk.cell 5, hk.cell 6, hk.cell 7, hk.cell 8, hk.cell 9, bel_then hB4 hB4.size hal6, hk.lt, hseg⟩
  clear hblk4 hal5 hal6 hseg hB4
  generalize w4.heap.size + 1 = g2 at *
  go_region_held3 (fun w' => w'.cell? ⟨g, 0, none⟩ = some (.int .i64 7) ∧ w'.cell? ⟨g, 1, none⟩ = some (.string (bs [110, 55])) ∧ w'.cell? ⟨g, 2, none⟩ = some (.int .i64 20000) ∧ w'.cell? ⟨g, 3, none⟩ = some (.int .i64 3000) ∧ w'.cell? ⟨g, 4, none⟩ = some (.int .i64 50) ∧ w'.cell? ⟨g, 5, none⟩ = some (.int .i64 60) ∧ w'.cell? ⟨g, 6, none⟩ = some (.int .i64 100) ∧ w'.cell? ⟨g, 7, none⟩ = some (.int .i64 1) ∧ w'.cell? ⟨g, 8, none⟩ = some (.int .i64 20) ∧ w'.cell? ⟨g, 9, none⟩ = some (.int .i64 10) ∧ AI w g g2 w') (first | assumption | exact av_drew ‹_› | (refine AV.now ‹_› ?_; assumption) | (refine AV.now hAV ?_; (repeat' (first | (with_reducible exact Below.refl _ _) | (with_reducible assumption) | (with_reducible refine Below.drewN ?_ _) | (with_reducible refine Below.drew ?_) | (with_reducible refine Below.alloc ?_ ?_ _) | (with_reducible refine Below.setCell ?_ ?_ _) | (with_reducible exact Nat.le_refl _) | (with_reducible exact Below.size (by assumption)) | omega | (simp only [World.size_alloc, World.size_setCell, World.size_drew]; omega) | (simp; done) | (simp; omega))))) (first
    | (go_at_call 22; refine (exampleE _).mono ?_; rintro e wq ⟨rfl, hq⟩)
    | (go_at_call 18; refine (errorE _).mono ?_; rintro e wq ⟨rfl, hq⟩)
    | (go_at_call 16; refine (weakE_any _ _ (avi (by assumption)).2.2).mono ?_; rintro e wq ⟨rfl, hq⟩)
    | (go_at_call 12; refine (checkA _).mono ?_; rintro e wq ⟨rfl, hq⟩))
  all_goals (go_wp2_with fail)
  all_goals (go_ret; exact ⟨rfl, (avi (by assumption)).1⟩)
end Go.Proofs.YtfmfadafpbnjoaaDoor
