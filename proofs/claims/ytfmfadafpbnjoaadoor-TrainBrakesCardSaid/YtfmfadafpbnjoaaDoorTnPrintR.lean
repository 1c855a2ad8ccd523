/- The walk of Print's reference. -/
import Derived.Test.YtfmfadafpbnjoaaDoorTnPrint
import Derived.Deep.QuietTactic
import Derived.BigQuiet
namespace Go.Proofs.YtfmfadafpbnjoaaDoor
set_option linter.unusedVariables false
set_option linter.unusedSimpArgs false
open Go.RowKit
attribute [local go_sem] bs_size bs_get bs_append bs_extract bs_toList
theorem bs_sp (l : List UInt8) : bs l ++ { data := #[32] } = bs (l ++ [32]) := bs_append l [32]
theorem bs_tr (l : List UInt8) : ({ data := #[116, 114, 97, 105, 110, 32] } : ByteArray) ++ bs l = bs (trainW ++ 32 :: l) := bs_append [116, 114, 97, 105, 110, 32] l
attribute [local go_sem] bs_sp
/-- The text so far. -/
def pj (t : Trn) (k : Nat) : List UInt8 := Lib.join (pw t k) [32]
theorem pw_ne (t : Trn) (k : Nat) : pw t k ≠ [] := by unfold pw; simp
theorem joinT_snoc (a x : List UInt8) (r : List (List UInt8)) : Lib.join (a :: r ++ [x]) [32] = Lib.join (a :: r) [32] ++ (32 :: x) := by
  have gen : ∀ (r : List (List UInt8)) (a : List UInt8), Lib.join (a :: r ++ [x]) [32] = Lib.join (a :: r) [32] ++ (32 :: x) := by
    intro r
    induction r with
    | nil => intro a; simp [Lib.join, List.intercalate]
    | cons b r ih =>
      intro a
      have h1 : ∀ (a b : List UInt8) (r : List (List UInt8)), Lib.join (a :: b :: r) [32] = a ++ (32 :: Lib.join (b :: r) [32]) := fun a b r => by simp [Lib.join, List.intercalate]
      have h2 := ih b
      rw [List.cons_append] at h2
      rw [List.cons_append, List.cons_append, h1, h2, h1]
      simp
  exact gen r a
theorem pj_succ (t : Trn) (k : Nat) (h : k < (restN t).length) : pj t (k + 1) = pj t k ++ (32 :: Lib.itoa (restN t)[k]) := by
  unfold pj
  rw [pw_succ t k h]
  unfold pw
  exact joinT_snoc _ _ _
theorem pj_zero (t : Trn) : pj t 0 = trainW ++ 32 :: (Lib.itoa t.id ++ 32 :: t.name) := by
  unfold pj pw
  simp [Lib.join, List.intercalate]
theorem pj_all (t : Trn) : pj t 8 = Lib.join (wordsT t) [32] := rfl
theorem pj_len {t : Trn} (h : chkF t = 0) : ∀ k, k ≤ 8 → (pj t k).length ≤ 715 := by
  intro k hk
  have hm : ∀ k, k < 8 → (pj t k).length ≤ (pj t (k + 1)).length := fun k hk => by rw [pj_succ t k hk]; simp
  have h8 : (pj t 8).length ≤ 715 := (prt_par h).2
  have m0 : (pj t 0).length ≤ (pj t 1).length := hm 0 (by omega)
  have m1 : (pj t 1).length ≤ (pj t 2).length := hm 1 (by omega)
  have m2 : (pj t 2).length ≤ (pj t 3).length := hm 2 (by omega)
  have m3 : (pj t 3).length ≤ (pj t 4).length := hm 3 (by omega)
  have m4 : (pj t 4).length ≤ (pj t 5).length := hm 4 (by omega)
  have m5 : (pj t 5).length ≤ (pj t 6).length := hm 5 (by omega)
  have m6 : (pj t 6).length ≤ (pj t 7).length := hm 6 (by omega)
  have m7 : (pj t 7).length ≤ (pj t 8).length := hm 7 (by omega)
  rcases (by omega : k = 0 ∨ k = 1 ∨ k = 2 ∨ k = 3 ∨ k = 4 ∨ k = 5 ∨ k = 6 ∨ k = 7 ∨ k = 8) with rfl | rfl | rfl | rfl | rfl | rfl | rfl | rfl | rfl <;> omega
theorem rformatW (n : Int) (w : World) (h0 : -9223372036854775808 ≤ n) (h1 : n ≤ 9223372036854775807) : Calls Tryd.prog 26 #[.int .i64 n] w fun e w' => e = .returned (.string (bs (Lib.itoa n))) ∧ w' = w := (rformat_any n w h0 h1).mono fun _ _ ⟨h, hw⟩ => ⟨h, hw.symm⟩
set_option maxHeartbeats 1000000 in
theorem numbers_any (t : Trn) (w : World) : Calls Tryd.prog 25 #[trnA t] w fun e w' => ∃ g, e = .returned (.slice (some ⟨g, 0, none⟩) 9 9) ∧ Blk w' g 3 ((t.id :: restN t).map (Value.int .i64)).toArray ∧ Below w.heap.size w w' := by
  unfold trnA
  go_enter Tryd.func25, Tryd.ntmps25
  go_wp2_with fail
  go_ret
  exact ⟨_, rfl, Blk.new _ _ _ _ (by simp), by (repeat' (first | (with_reducible exact Below.refl _ _) | (with_reducible assumption) | (with_reducible refine Below.drewN ?_ _) | (with_reducible refine Below.drew ?_) | (with_reducible refine Below.alloc ?_ ?_ _) | (with_reducible refine Below.setCell ?_ ?_ _) | (with_reducible exact Nat.le_refl _) | (with_reducible exact Below.size (by assumption)) | omega | (simp only [World.size_alloc, World.size_setCell, World.size_drew]; omega) | (simp; done) | (simp; omega)))⟩
set_option maxRecDepth 100000 in
set_option maxHeartbeats 8000000 in
theorem rprint_any (t : Trn) (w : World) (hn : t.name.length ≤ maxLen) :
    Calls Tryd.prog 11 #[trnA t] w fun e w' => e = .returned (.tuple #[.string (bs (prtT t).1), .int .i64 (prtT t).2]) ∧ Below w.heap.size w w' := by
  have hts := TS.new w t w.heap.size rfl
  obtain ⟨c, hc⟩ : ∃ c, chkF t = c := ⟨_, rfl⟩
  by_cases h0 : c = 0
  · subst h0
    have HC := Lib.hid (rcheckC hc)
    have HP := Lib.hid (prt_yes hc)
    have HI := Lib.hid (chk_i64 hc)
    have HL := Lib.hid (pj_len hc)
    have hid := HI.out t.id (by simp)
    have HNM := Lib.hid fun W => numbers_any t W
    have hnl : t.name.length ≤ 64 := (wordB_len (name_word (chk_ok hc).1)).2
    have hz := HL.out 0 (by omega)
    have HZ := Lib.hid (pj_zero t)
    have hil := itoaT_len _ hid
    have hf0 := fun W => rformatW t.id W hid.1 hid.2
    clear hc
    unfold trnA at HC HNM ⊢
    go_enter Tryd.func11, Tryd.ntmps11
    go_wp2_with fail
    refine (HC.out _ hn).mono ?_
    rintro e w1 ⟨rfl, hb1⟩
    have hts1 := hts.now hb1
    obtain ⟨q0, q1, q2, q3, q4, q5, q6, q7, q8, q9, q10, q11⟩ := hts1
    go_wp2_with fail
    refine (HNM.out _).mono ?_
    rintro e w2 ⟨g2, rfl, hblk, hb2⟩
    have hts2 := (hts.now hb1).now hb2
    have hB2 := hts2.bel
    have hk0 : w2.cell? ⟨g2, 0, none⟩ = some (.int .i64 t.id) := hblk.cell 0
    have hk1 : w2.cell? ⟨w.heap.size, 1, none⟩ = some (.string (bs t.name)) := hts2.2.1
    clear q0 q1 q2 q3 q4 q5 q6 q7 q8 q9 q10 q11 hts hts2 hb1 hb2
    generalize Lib.itoa t.id = it at *
    obtain ⟨u, hu⟩ : ∃ u, trainW ++ 32 :: it = u := ⟨_, rfl⟩
    have hbt : ({ data := #[116, 114, 97, 105, 110, 32] } : ByteArray) ++ bs it = bs u := by rw [← hu]; exact bs_tr it
    have hul : u.length ≤ 30 := by rw [← hu]; simp [trainW]; omega
    have HU := Lib.hid hu
    clear hu
    go_wp2_with fail
    (refine wp_region_quiet_lit (by kernel_rfl) (by kernel_rfl) ?_; (repeat (any_goals (first | go_big_quiet_step ((first | (go_at_call 26; exact Calls.quiet_of_same (hf0 _)))) | quiet_step ((first | (go_at_call 26; exact Calls.quiet_of_same (hf0 _)))) | (refine wpQuiet_step (fun K hK => ?_); go_simp; split <;> (refine hK _ ?_; clear hK K))))); all_goals (refine wpQuiet_nil ?_; intro _ hw'; obtain ⟨nq, hw''⟩ := hw'; subst hw''))
    go_wp2_with fail
    go_loop [6, 7] (fun s i => ∃ k : Nat, k ≤ 8 ∧ i = .int .i64 (k + 1 : Nat) ∧ s = .string (bs (pj t k))) (fun _ i => 9 - (intOf i).toNat)
    case atStart => exact ⟨0, by omega, rfl, by rw [HZ.out, ← HU.out]; simp⟩
    case round =>
      obtain ⟨k, hk, rfl, rfl⟩ := hrel
      have hl := HL.out k hk
      by_cases hlt : k < 8
      · have hx : w2.cell? ⟨g2, k + 1, none⟩ = some (.int .i64 ((restN t)[k]'hlt)) := by
          rw [hblk.cell]
          have h8 : k < (restN t).length := hlt
          simp [h8]
          rfl
        have hni := HI.out ((restN t)[k]'hlt) (List.mem_cons_of_mem _ (List.getElem_mem hlt))
        have HN := Lib.hid (pj_succ t k hlt)
        have hil2 := itoaT_len _ hni
        generalize (restN t)[k]'hlt = n at *
        generalize pj t k = s at *
        have hki : ((k + 1 : Nat) : Int) < 9 := by omega
        have hf := fun W => rformat_any n W hni.1 hni.2
        generalize Lib.itoa n = itn at *
        go_wp2_with fail
        refine (hf _).mono ?_
        rintro e w3 ⟨rfl, rfl⟩
        go_wp2_with fail
        go_round
        case rel => exact ⟨k + 1, by omega, by go_num, by rw [HN.out]; try simp⟩
        case measure => simp [intOf]; omega
      · obtain rfl : k = 8 := by omega
        go_wp2_with fail
        go_ret2
        exact ⟨by rw [HP.out, ← pj_all]; rfl, Below.drewN hB2 _⟩
  · have HC := Lib.hid (rcheckC hc)
    have HP := Lib.hid (prt_no hc h0)
    have hcb : (c != 0) = true := by simpa using h0
    clear hc h0
    unfold trnA at HC ⊢
    go_enter Tryd.func11, Tryd.ntmps11
    go_wp2_with fail
    refine (HC.out _ hn).mono ?_
    rintro e w1 ⟨rfl, hb1⟩
    go_wp2_with fail
    go_ret2
    exact ⟨by rw [HP.out]; rfl, (hts.now hb1).bel⟩
end Go.Proofs.YtfmfadafpbnjoaaDoor
