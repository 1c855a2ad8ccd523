/- The reference's path, places, gaps: numbers as steps, settings, ends. -/
import Derived.Test.YtlblfblkallnhaaGreatDoorTbRqA
namespace Go.Proofs.YtlblfblkallnhaaGreatDoor
set_option linter.unusedVariables false
set_option linter.unusedSimpArgs false
open Go.RowKit
attribute [local go_sem] bs_size bs_get bs_append bs_extract bs_toList
attribute [-go_sem] run_equalIn_agg
theorem range_step {α : Type} (f : Nat → α) (k : Nat) : (List.range (k + 1)).map f = (List.range k).map f ++ [f k] := by rw [List.range_succ, List.map_append]; rfl
theorem elI_get {w : World} {S : Nat → Prop} {A : Option Addr} {l : List Int} (h : RdS cI w S A l) {i : Nat} (hi : i < l.length) : ∃ b off, A = some ⟨b, off, none⟩ ∧ S b ∧ I64n (l.getD i 0) ∧ w.cell? ⟨b, off + i, none⟩ = some (.int .i64 (l.getD i 0)) := by
  obtain ⟨b, off, h1, h2, h3, h4⟩ := h.elI hi
  rw [getD_at hi]
  exact ⟨b, off, h1, h2, h3, h4⟩
set_option maxRecDepth 100000 in
set_option maxHeartbeats 8000000 in
theorem rpath_any (l : List Int) (A : Option Addr) (cap : Nat) (w : World) (hr : RdS cI w (Lt w) A l) (hl : l.length ≤ 100000) :
    Calls Tryz.prog 92 #[.slice A l.length cap] w fun e w' => ∃ A' c', e = .returned (.slice A' (pathF l).length c') ∧ OwnR cStp w' w.heap.size 50 (.slice A' (pathF l).length c') (pathF l) 0 ∧ Below w.heap.size w w' := by
  obtain ⟨i0, hi0, hz0, hz1, hz2⟩ := info_parts infoStpT
  go_enter Tryz.func92, Tryz.ntmps92
  go_wp2_with fail
  go_loopw [3, 4] (fun s x wr => ∃ k i : Nat, k ≤ l.length / 3 ∧ x = .int .i64 i ∧ Hid (i = k * 3) ∧ OwnR cStp wr w.heap.size 50 s ((List.range k).map (stp3 l)) 0 ∧ Below w.heap.size w wr) (fun _ x _ => l.length + 3 - (intOf x).toNat)
  case atStart => exact ⟨0, 0, Nat.zero_le _, rfl, Lib.hid rfl, OwnR.nil _ _ _ _ (Nat.zero_le _), Below.refl _ _⟩
  case round =>
    obtain ⟨k, i, hk, rfl, HI, hown, hb⟩ := hrel
    have hsz := hb.size
    have hil : i ≤ l.length := by have := HI.out; omega
    have hw2 : IntKind.i64.wrap ((i : Int) + 2) = (i : Int) + 2 := IntWalk.i64_in _ (by omega)
    by_cases hlt : i + 2 < l.length
    · have hki : (i : Int) + 2 < (l.length : Int) := by omega
      have hw1 : IntKind.i64.wrap ((i : Int) + 1) = (i : Int) + 1 := IntWalk.i64_in _ (by omega)
      obtain ⟨b, off, hA, lb, o0, y0⟩ := elI_get hr (i := i) (by omega)
      obtain ⟨b1, off1, hA1, -, o1, y1⟩ := elI_get hr (i := i + 1) (by omega)
      obtain ⟨rfl, rfl⟩ : b = b1 ∧ off = off1 := by simp only [hA, Option.some.injEq, Addr.mk.injEq] at hA1; exact ⟨hA1.1, hA1.2.1⟩
      obtain ⟨b2, off2, hA2, -, o2, y2⟩ := elI_get hr (i := i + 2) (by omega)
      obtain ⟨rfl, rfl⟩ : b = b2 ∧ off = off2 := by simp only [hA, Option.some.injEq, Addr.mk.injEq] at hA2; exact ⟨hA2.1, hA2.2.1⟩
      have hkn : k + 1 ≤ l.length / 3 := by have := HI.out; omega
      have HI2 : Hid (i + 3 = (k + 1) * 3) := Lib.hid (by have := HI.out; omega)
      have HT : Hid ((List.range (k + 1)).map (stp3 l) = (List.range k).map (stp3 l) ++ [stp3 l k]) := Lib.hid (range_step _ _)
      have HFK : Hid (stp3 l k = ⟨l.getD (i) 0, l.getD (i + 1) 0, l.getD (i + 2) 0⟩) := Lib.hid (by unfold stp3; rw [HI.out])
      rw [HFK.out] at HT
      have hkl : ((List.range k).map (stp3 l)).length ≤ 100000 := by simp; omega
      have HO := Lib.hid (And.intro o0 (And.intro o1 o2))
      rw [hA]
      clear hA HFK o0 o1 o2 hA1 hA2
      generalize (List.range k).map (stp3 l) = acc at *
      generalize l.getD (i + 2) 0 = q2 at *
      generalize l.getD (i + 1) 0 = q1 at *
      generalize l.getD (i) 0 = q0 at *
      have HSS : Hid (∀ W, (OwnR cStp W w.heap.size 50 u3 acc 0 ∧ Below w.heap.size w W) → (fun w' => w'.cell? ⟨b, off + i, none⟩ = some (.int .i64 q0) ∧ w'.cell? ⟨b, off + (i + 1), none⟩ = some (.int .i64 q1) ∧ w'.cell? ⟨b, off + (i + 2), none⟩ = some (.int .i64 q2) ∧ (OwnR cStp w' w.heap.size 50 u3 acc 0 ∧ Below w.heap.size w w')) W) := Lib.hid fun W h => ⟨(h.2.cell (p := ⟨b, off + i, none⟩) lb).trans y0, (h.2.cell (p := ⟨b, off + (i + 1), none⟩) lb).trans y1, (h.2.cell (p := ⟨b, off + (i + 2), none⟩) lb).trans y2, h⟩
      have hi0' : (i : Int) < (l.length : Int) := by omega
      have hi1' : (i : Int) + 1 < (l.length : Int) := by omega
      have hp1 : (0 : Int) ≤ (i : Int) + 1 := by omega
      have hp2 : (0 : Int) ≤ (i : Int) + 2 := by omega
      have hp3 : ((i : Int) + 2).toNat = i + 2 := by omega
      have hp4 : ((i : Int) + 1).toNat = i + 1 := by omega
      clear y0 y1 y2
      go_wp2_with fail
      refine wp_region_held_drew (S := (fun w' => w'.cell? ⟨b, off + i, none⟩ = some (.int .i64 q0) ∧ w'.cell? ⟨b, off + (i + 1), none⟩ = some (.int .i64 q1) ∧ w'.cell? ⟨b, off + (i + 2), none⟩ = some (.int .i64 q2) ∧ (OwnR cStp w' w.heap.size 50 u3 acc 0 ∧ Below w.heap.size w w'))) (by kernel_rfl) (HSS.out _ ⟨hown.drew, hb.drew⟩) (fun hHeld => ?_)
      refine tkY (i := 0) (oi := .mk _ _ _ _ _ _) (v := ?_) rfl (by kernel_rfl) (fun _ _ _ h => h) (Or.inl ⟨by rfl, ?_⟩) (by assumption) ?_
      rotate_left
      · intro W hSw; (try dsimp only at hSw); go_simp; first | done | with_reducible rfl
      try simp only [Act.put, lsa, lsz, lss]
      refine tkY (i := 1) (oi := .mk _ _ _ _ _ _) (v := ?_) rfl (by kernel_rfl) (fun _ _ _ h => h) (Or.inl ⟨by rfl, ?_⟩) (by assumption) ?_
      rotate_left
      · intro W hSw; (try dsimp only at hSw); go_simp; first | done | with_reducible rfl
      try simp only [Act.put, lsa, lsz, lss]
      refine tkY (i := 2) (oi := .mk _ _ _ _ _ _) (v := ?_) rfl (by kernel_rfl) (fun _ _ _ h => h) (Or.inl ⟨by rfl, ?_⟩) (by assumption) ?_
      rotate_left
      · intro W hSw; (try dsimp only at hSw); go_simp; first | done | with_reducible rfl
      try simp only [Act.put, lsa, lsz, lss]
      refine tkY (i := 3) (oi := .mk _ _ _ _ _ _) (v := ?_) rfl (by kernel_rfl) (fun _ _ _ h => h) (Or.inl ⟨by rfl, ?_⟩) (by assumption) ?_
      rotate_left
      · intro W hSw; (try dsimp only at hSw); go_simp; first | done | with_reducible rfl
      try simp only [Act.put, lsa, lsz, lss]
      refine tkY (i := 4) (oi := .mk _ _ _ _ _ _) (v := ?_) rfl (by kernel_rfl) (fun _ _ _ h => h) (Or.inl ⟨by rfl, ?_⟩) (by assumption) ?_
      rotate_left
      · intro W hSw; (try dsimp only at hSw); go_simp; first | done | with_reducible rfl
      try simp only [Act.put, lsa, lsz, lss]
      refine tkY (i := 5) (oi := .mk _ _ _ _ _ _) (v := ?_) rfl (by kernel_rfl) (fun _ _ _ h => h) (Or.inl ⟨by rfl, ?_⟩) (by assumption) ?_
      rotate_left
      · intro W hSw; (try dsimp only at hSw); go_simp; first | done | with_reducible rfl
      try simp only [Act.put, lsa, lsz, lss]
      refine tkY (i := 6) (oi := .mk _ _ _ _ _ _) (v := ?_) rfl (by kernel_rfl) (fun _ _ _ h => h) (Or.inl ⟨by rfl, ?_⟩) (by assumption) ?_
      rotate_left
      · intro W hSw; (try dsimp only at hSw); go_simp; first | done | with_reducible rfl
      try simp only [Act.put, lsa, lsz, lss]
      refine tkY (i := 7) (oi := .mk _ _ _ _ _ _) (v := ?_) rfl (by kernel_rfl) (fun _ _ _ h => h) (Or.inl ⟨by rfl, ?_⟩) (by assumption) ?_
      rotate_left
      · intro W hSw; (try dsimp only at hSw); go_simp; first | done | with_reducible rfl
      try simp only [Act.put, lsa, lsz, lss]
      refine tkY (i := 8) (oi := .mk _ _ _ _ _ _) (v := ?_) rfl (by kernel_rfl) (fun _ _ _ h => h) (Or.inl ⟨by rfl, ?_⟩) (by assumption) ?_
      rotate_left
      · intro W hSw; (try dsimp only at hSw); go_simp; first | done | with_reducible rfl
      try simp only [Act.put, lsa, lsz, lss]
      refine tkY (i := 9) (oi := .mk _ _ _ _ _ _) (v := ?_) rfl (by kernel_rfl) (fun _ _ _ h => h) (Or.inl ⟨by rfl, ?_⟩) (by assumption) ?_
      rotate_left
      · intro W hSw; (try dsimp only at hSw); go_simp; first | done | with_reducible rfl
      try simp only [Act.put, lsa, lsz, lss]
      refine tkY (i := 10) (oi := .mk _ _ _ _ _ _) (v := ?_) rfl (by kernel_rfl) (fun _ _ _ h => h) (Or.inl ⟨by rfl, ?_⟩) (by assumption) ?_
      rotate_left
      · intro W hSw; (try dsimp only at hSw); go_simp; first | done | with_reducible rfl
      try simp only [Act.put, lsa, lsz, lss]
      refine tkY (i := 11) (oi := .mk _ _ _ _ _ _) (v := ?_) rfl (by kernel_rfl) (fun _ _ _ h => h) (Or.inl ⟨by rfl, ?_⟩) (by assumption) ?_
      rotate_left
      · intro W hSw; (try dsimp only at hSw); go_simp; first | done | with_reducible rfl
      try simp only [Act.put, lsa, lsz, lss]
      refine tkY (i := 12) (oi := .mk _ _ _ _ _ _) (v := ?_) rfl (by kernel_rfl) (fun _ _ _ h => h) (Or.inl ⟨by rfl, ?_⟩) (by assumption) ?_
      rotate_left
      · intro W hSw; (try dsimp only at hSw); go_simp; first | done | with_reducible rfl
      try simp only [Act.put, lsa, lsz, lss]
      refine tkY (i := 13) (oi := .mk _ _ _ _ _ _) (v := ?_) rfl (by kernel_rfl) (fun _ _ _ h => h) (Or.inl ⟨by rfl, ?_⟩) (by assumption) ?_
      rotate_left
      · intro W hSw; (try dsimp only at hSw); go_simp; first | done | with_reducible rfl
      try simp only [Act.put, lsa, lsz, lss]
      refine tkY (i := 14) (oi := .mk _ _ _ _ _ _) (v := ?_) rfl (by kernel_rfl) (fun _ _ _ h => h) (Or.inl ⟨by rfl, ?_⟩) (by assumption) ?_
      rotate_left
      · intro W hSw; (try dsimp only at hSw); go_simp; first | done | with_reducible rfl
      try simp only [Act.put, lsa, lsz, lss]
      refine tkY (i := 15) (oi := .mk _ _ _ _ _ _) (v := ?_) rfl (by kernel_rfl) (fun _ _ _ h => h) (Or.inl ⟨by rfl, ?_⟩) (by assumption) ?_
      rotate_left
      · intro W hSw; (try dsimp only at hSw); go_simp; first | done | with_reducible rfl
      try simp only [Act.put, lsa, lsz, lss]
      refine wpAnyH_ready (rs := [16]) (by kernel_rfl) (by simp) (AllReadyH.cons (o := .mk _ _ _ _ _ _) rfl (fun K hK => ?_) AllReadyH.nil)
      go_simp
      refine hK.out _ _ ?_ (fun hHeld => ?_)
      · exact HSS.out _ ⟨(hown.alloc _).drew, (hb.alloc hsz _).drew⟩
      clear hK K
      try simp only [Act.put, lsa, lsz, lss]
      have hoC := (hown.alloc (.cells #[.int .i64 q0, .int .i64 q1, .int .i64 q2] 50)).drew
      have hbC := (hb.alloc hsz (.cells #[.int .i64 q0, .int .i64 q1, .int .i64 q2] 50)).drew
      have hkC : Blk (wr.alloc (.cells #[.int .i64 q0, .int .i64 q1, .int .i64 q2] 50)).drew wr.heap.size 50 [Value.int .i64 q0, Value.int .i64 q1, Value.int .i64 q2].toArray := (Blk.new _ _ _ _ rfl).drew
      refine wpAnyH_ready (rs := [17]) (by kernel_rfl) (by simp) (AllReadyH.cons (o := .mk _ _ _ _ _ _) rfl (fun K hK => ?_) AllReadyH.nil)
      refine step_append_r (c := cStp) rfl _ _ 37 rfl w.heap.size 50 i0 _ 24 Tryz.underlying37 hi0 hz0 hz1 hz2 rfl (by decide) u3 acc 0 rfl hoC [.int .i64 q0, .int .i64 q1, .int .i64 q2] ⟨q0, q1, q2⟩ ⟨rfl, HO.out⟩ (fun u hu => by (simp at hu; rcases hu with rfl | rfl | rfl <;> rfl)) _ rfl (blk_cells hkC) (by omega) (by omega) hbC.size ?_
      intro v5 w5 hown5 hold5 hf5
      have hb5 := hf5.keeps (Nat.le_refl _) hbC.size hbC
      refine hK.out _ _ ?_ (fun hHeld => ?_)
      · exact HSS.out _ ⟨hold5, hb5⟩
      clear hK K
      try simp only [Act.put, lsa, lsz, lss]
      refine tkY (i := 18) (oi := .mk _ _ _ _ _ _) (v := ?_) rfl (by kernel_rfl) (fun _ _ _ h => h) (Or.inl ⟨by rfl, ?_⟩) (by assumption) ?_
      rotate_left
      · intro W hSw; (try dsimp only at hSw); go_simp; first | done | with_reducible rfl
      try simp only [Act.put, lsa, lsz, lss]
      refine wpAnyH_done (by kernel_rfl) ?_ _
      go_wp2_with fail
      go_roundw
      case rel => exact ⟨k + 1, i + 3, hkn, by go_num, HI2, by rw [HT.out]; exact hown5.low cStp_flat, hb5⟩
      case measure => simp [intOf]; omega
    · have hki : ¬ (i : Int) + 2 < (l.length : Int) := by omega
      have HE : Hid ((List.range k).map (stp3 l) = pathF l) := Lib.hid (by unfold pathF; rw [show k = l.length / 3 by have := HI.out; omega])
      rw [HE.out] at hown
      obtain ⟨A', c', rfl⟩ := hown.form
      have HO := Lib.hid hown
      clear hown HE
      go_wp2_with fail
      go_ret
      exact ⟨A', c', rfl, HO.out, hb⟩
set_option maxRecDepth 100000 in
set_option maxHeartbeats 8000000 in
theorem rplaces_any (l : List Int) (A : Option Addr) (cap : Nat) (w : World) (hr : RdS cI w (Lt w) A l) (hl : l.length ≤ 100000) :
    Calls Tryz.prog 93 #[.slice A l.length cap] w fun e w' => ∃ A' c', e = .returned (.slice A' (placesF l).length c') ∧ OwnR cStg w' w.heap.size 99 (.slice A' (placesF l).length c') (placesF l) 0 ∧ Below w.heap.size w w' := by
  obtain ⟨i0, hi0, hz0, hz1, hz2⟩ := info_parts infoStgT
  go_enter Tryz.func93, Tryz.ntmps93
  go_wp2_with fail
  go_loopw [3, 4] (fun s x wr => ∃ k i : Nat, k ≤ l.length / 2 ∧ x = .int .i64 i ∧ Hid (i = k * 2) ∧ OwnR cStg wr w.heap.size 99 s ((List.range k).map (stg2 l)) 0 ∧ Below w.heap.size w wr) (fun _ x _ => l.length + 2 - (intOf x).toNat)
  case atStart => exact ⟨0, 0, Nat.zero_le _, rfl, Lib.hid rfl, OwnR.nil _ _ _ _ (Nat.zero_le _), Below.refl _ _⟩
  case round =>
    obtain ⟨k, i, hk, rfl, HI, hown, hb⟩ := hrel
    have hsz := hb.size
    have hil : i ≤ l.length := by have := HI.out; omega
    have hw1 : IntKind.i64.wrap ((i : Int) + 1) = (i : Int) + 1 := IntWalk.i64_in _ (by omega)
    by_cases hlt : i + 1 < l.length
    · have hki : (i : Int) + 1 < (l.length : Int) := by omega
      skip
      obtain ⟨b, off, hA, lb, o0, y0⟩ := elI_get hr (i := i) (by omega)
      obtain ⟨b1, off1, hA1, -, o1, y1⟩ := elI_get hr (i := i + 1) (by omega)
      obtain ⟨rfl, rfl⟩ : b = b1 ∧ off = off1 := by simp only [hA, Option.some.injEq, Addr.mk.injEq] at hA1; exact ⟨hA1.1, hA1.2.1⟩
      have hkn : k + 1 ≤ l.length / 2 := by have := HI.out; omega
      have HI2 : Hid (i + 2 = (k + 1) * 2) := Lib.hid (by have := HI.out; omega)
      have HT : Hid ((List.range (k + 1)).map (stg2 l) = (List.range k).map (stg2 l) ++ [stg2 l k]) := Lib.hid (range_step _ _)
      have HFK : Hid (stg2 l k = ⟨l.getD (i) 0, l.getD (i + 1) 0⟩) := Lib.hid (by unfold stg2; rw [HI.out])
      rw [HFK.out] at HT
      have hkl : ((List.range k).map (stg2 l)).length ≤ 100000 := by simp; omega
      have HO := Lib.hid (And.intro o0 o1)
      rw [hA]
      clear hA HFK o0 o1 hA1
      generalize (List.range k).map (stg2 l) = acc at *
      generalize l.getD (i + 1) 0 = q1 at *
      generalize l.getD (i) 0 = q0 at *
      have HSS : Hid (∀ W, (OwnR cStg W w.heap.size 99 u3 acc 0 ∧ Below w.heap.size w W) → (fun w' => w'.cell? ⟨b, off + i, none⟩ = some (.int .i64 q0) ∧ w'.cell? ⟨b, off + (i + 1), none⟩ = some (.int .i64 q1) ∧ (OwnR cStg w' w.heap.size 99 u3 acc 0 ∧ Below w.heap.size w w')) W) := Lib.hid fun W h => ⟨(h.2.cell (p := ⟨b, off + i, none⟩) lb).trans y0, (h.2.cell (p := ⟨b, off + (i + 1), none⟩) lb).trans y1, h⟩
      have hi0' : (i : Int) < (l.length : Int) := by omega
      have hi1' : (i : Int) + 1 < (l.length : Int) := by omega
      have hp1 : (0 : Int) ≤ (i : Int) + 1 := by omega
      have hp2 : (0 : Int) ≤ (i : Int) + 2 := by omega
      have hp3 : ((i : Int) + 2).toNat = i + 2 := by omega
      have hp4 : ((i : Int) + 1).toNat = i + 1 := by omega
      clear y0 y1
      go_wp2_with fail
      refine wp_region_held_drew (S := (fun w' => w'.cell? ⟨b, off + i, none⟩ = some (.int .i64 q0) ∧ w'.cell? ⟨b, off + (i + 1), none⟩ = some (.int .i64 q1) ∧ (OwnR cStg w' w.heap.size 99 u3 acc 0 ∧ Below w.heap.size w w'))) (by kernel_rfl) (HSS.out _ ⟨hown.drew, hb.drew⟩) (fun hHeld => ?_)
      refine tkY (i := 0) (oi := .mk _ _ _ _ _ _) (v := ?_) rfl (by kernel_rfl) (fun _ _ _ h => h) (Or.inl ⟨by rfl, ?_⟩) (by assumption) ?_
      rotate_left
      · intro W hSw; (try dsimp only at hSw); go_simp; first | done | with_reducible rfl
      try simp only [Act.put, lsa, lsz, lss]
      refine tkY (i := 1) (oi := .mk _ _ _ _ _ _) (v := ?_) rfl (by kernel_rfl) (fun _ _ _ h => h) (Or.inl ⟨by rfl, ?_⟩) (by assumption) ?_
      rotate_left
      · intro W hSw; (try dsimp only at hSw); go_simp; first | done | with_reducible rfl
      try simp only [Act.put, lsa, lsz, lss]
      refine tkY (i := 2) (oi := .mk _ _ _ _ _ _) (v := ?_) rfl (by kernel_rfl) (fun _ _ _ h => h) (Or.inl ⟨by rfl, ?_⟩) (by assumption) ?_
      rotate_left
      · intro W hSw; (try dsimp only at hSw); go_simp; first | done | with_reducible rfl
      try simp only [Act.put, lsa, lsz, lss]
      refine tkY (i := 3) (oi := .mk _ _ _ _ _ _) (v := ?_) rfl (by kernel_rfl) (fun _ _ _ h => h) (Or.inl ⟨by rfl, ?_⟩) (by assumption) ?_
      rotate_left
      · intro W hSw; (try dsimp only at hSw); go_simp; first | done | with_reducible rfl
      try simp only [Act.put, lsa, lsz, lss]
      refine tkY (i := 4) (oi := .mk _ _ _ _ _ _) (v := ?_) rfl (by kernel_rfl) (fun _ _ _ h => h) (Or.inl ⟨by rfl, ?_⟩) (by assumption) ?_
      rotate_left
      · intro W hSw; (try dsimp only at hSw); go_simp; first | done | with_reducible rfl
      try simp only [Act.put, lsa, lsz, lss]
      refine tkY (i := 5) (oi := .mk _ _ _ _ _ _) (v := ?_) rfl (by kernel_rfl) (fun _ _ _ h => h) (Or.inl ⟨by rfl, ?_⟩) (by assumption) ?_
      rotate_left
      · intro W hSw; (try dsimp only at hSw); go_simp; first | done | with_reducible rfl
      try simp only [Act.put, lsa, lsz, lss]
      refine tkY (i := 6) (oi := .mk _ _ _ _ _ _) (v := ?_) rfl (by kernel_rfl) (fun _ _ _ h => h) (Or.inl ⟨by rfl, ?_⟩) (by assumption) ?_
      rotate_left
      · intro W hSw; (try dsimp only at hSw); go_simp; first | done | with_reducible rfl
      try simp only [Act.put, lsa, lsz, lss]
      refine tkY (i := 7) (oi := .mk _ _ _ _ _ _) (v := ?_) rfl (by kernel_rfl) (fun _ _ _ h => h) (Or.inl ⟨by rfl, ?_⟩) (by assumption) ?_
      rotate_left
      · intro W hSw; (try dsimp only at hSw); go_simp; first | done | with_reducible rfl
      try simp only [Act.put, lsa, lsz, lss]
      refine tkY (i := 8) (oi := .mk _ _ _ _ _ _) (v := ?_) rfl (by kernel_rfl) (fun _ _ _ h => h) (Or.inl ⟨by rfl, ?_⟩) (by assumption) ?_
      rotate_left
      · intro W hSw; (try dsimp only at hSw); go_simp; first | done | with_reducible rfl
      try simp only [Act.put, lsa, lsz, lss]
      refine tkY (i := 9) (oi := .mk _ _ _ _ _ _) (v := ?_) rfl (by kernel_rfl) (fun _ _ _ h => h) (Or.inl ⟨by rfl, ?_⟩) (by assumption) ?_
      rotate_left
      · intro W hSw; (try dsimp only at hSw); go_simp; first | done | with_reducible rfl
      try simp only [Act.put, lsa, lsz, lss]
      refine tkY (i := 10) (oi := .mk _ _ _ _ _ _) (v := ?_) rfl (by kernel_rfl) (fun _ _ _ h => h) (Or.inl ⟨by rfl, ?_⟩) (by assumption) ?_
      rotate_left
      · intro W hSw; (try dsimp only at hSw); go_simp; first | done | with_reducible rfl
      try simp only [Act.put, lsa, lsz, lss]
      refine wpAnyH_ready (rs := [11]) (by kernel_rfl) (by simp) (AllReadyH.cons (o := .mk _ _ _ _ _ _) rfl (fun K hK => ?_) AllReadyH.nil)
      go_simp
      refine hK.out _ _ ?_ (fun hHeld => ?_)
      · exact HSS.out _ ⟨(hown.alloc _).drew, (hb.alloc hsz _).drew⟩
      clear hK K
      try simp only [Act.put, lsa, lsz, lss]
      have hoC := (hown.alloc (.cells #[.int .i64 q0, .int .i64 q1] 99)).drew
      have hbC := (hb.alloc hsz (.cells #[.int .i64 q0, .int .i64 q1] 99)).drew
      have hkC : Blk (wr.alloc (.cells #[.int .i64 q0, .int .i64 q1] 99)).drew wr.heap.size 99 [Value.int .i64 q0, Value.int .i64 q1].toArray := (Blk.new _ _ _ _ rfl).drew
      refine wpAnyH_ready (rs := [12]) (by kernel_rfl) (by simp) (AllReadyH.cons (o := .mk _ _ _ _ _ _) rfl (fun K hK => ?_) AllReadyH.nil)
      refine step_append_r (c := cStg) rfl _ _ 38 rfl w.heap.size 99 i0 _ 16 Tryz.underlying38 hi0 hz0 hz1 hz2 rfl (by decide) u3 acc 0 rfl hoC [.int .i64 q0, .int .i64 q1] ⟨q0, q1⟩ ⟨rfl, HO.out⟩ (fun u hu => by (simp at hu; rcases hu with rfl | rfl <;> rfl)) _ rfl (blk_cells hkC) (by omega) (by omega) hbC.size ?_
      intro v5 w5 hown5 hold5 hf5
      have hb5 := hf5.keeps (Nat.le_refl _) hbC.size hbC
      refine hK.out _ _ ?_ (fun hHeld => ?_)
      · exact HSS.out _ ⟨hold5, hb5⟩
      clear hK K
      try simp only [Act.put, lsa, lsz, lss]
      refine tkY (i := 13) (oi := .mk _ _ _ _ _ _) (v := ?_) rfl (by kernel_rfl) (fun _ _ _ h => h) (Or.inl ⟨by rfl, ?_⟩) (by assumption) ?_
      rotate_left
      · intro W hSw; (try dsimp only at hSw); go_simp; first | done | with_reducible rfl
      try simp only [Act.put, lsa, lsz, lss]
      refine wpAnyH_done (by kernel_rfl) ?_ _
      go_wp2_with fail
      go_roundw
      case rel => exact ⟨k + 1, i + 2, hkn, by go_num, HI2, by rw [HT.out]; exact hown5.low cStg_flat, hb5⟩
      case measure => simp [intOf]; omega
    · have hki : ¬ (i : Int) + 1 < (l.length : Int) := by omega
      have HE : Hid ((List.range k).map (stg2 l) = placesF l) := Lib.hid (by unfold placesF; rw [show k = l.length / 2 by have := HI.out; omega])
      rw [HE.out] at hown
      obtain ⟨A', c', rfl⟩ := hown.form
      have HO := Lib.hid hown
      clear hown HE
      go_wp2_with fail
      go_ret
      exact ⟨A', c', rfl, HO.out, hb⟩
set_option maxRecDepth 100000 in
set_option maxHeartbeats 8000000 in
theorem rgaps_any (l : List Int) (A : Option Addr) (cap : Nat) (w : World) (hr : RdS cI w (Lt w) A l) (hl : l.length ≤ 100000) :
    Calls Tryz.prog 94 #[.slice A l.length cap] w fun e w' => ∃ A' c', e = .returned (.slice A' (gapsF l).length c') ∧ OwnR cEnd w' w.heap.size 107 (.slice A' (gapsF l).length c') (gapsF l) 0 ∧ Below w.heap.size w w' := by
  obtain ⟨i0, hi0, hz0, hz1, hz2⟩ := info_parts infoEndT
  go_enter Tryz.func94, Tryz.ntmps94
  go_wp2_with fail
  go_loopw [3, 4] (fun s x wr => ∃ k i : Nat, k ≤ l.length / 2 ∧ x = .int .i64 i ∧ Hid (i = k * 2) ∧ OwnR cEnd wr w.heap.size 107 s ((List.range k).map (end2 l)) 0 ∧ Below w.heap.size w wr) (fun _ x _ => l.length + 2 - (intOf x).toNat)
  case atStart => exact ⟨0, 0, Nat.zero_le _, rfl, Lib.hid rfl, OwnR.nil _ _ _ _ (Nat.zero_le _), Below.refl _ _⟩
  case round =>
    obtain ⟨k, i, hk, rfl, HI, hown, hb⟩ := hrel
    have hsz := hb.size
    have hil : i ≤ l.length := by have := HI.out; omega
    have hw1 : IntKind.i64.wrap ((i : Int) + 1) = (i : Int) + 1 := IntWalk.i64_in _ (by omega)
    by_cases hlt : i + 1 < l.length
    · have hki : (i : Int) + 1 < (l.length : Int) := by omega
      skip
      obtain ⟨b, off, hA, lb, o0, y0⟩ := elI_get hr (i := i) (by omega)
      obtain ⟨b1, off1, hA1, -, o1, y1⟩ := elI_get hr (i := i + 1) (by omega)
      obtain ⟨rfl, rfl⟩ : b = b1 ∧ off = off1 := by simp only [hA, Option.some.injEq, Addr.mk.injEq] at hA1; exact ⟨hA1.1, hA1.2.1⟩
      have hkn : k + 1 ≤ l.length / 2 := by have := HI.out; omega
      have HI2 : Hid (i + 2 = (k + 1) * 2) := Lib.hid (by have := HI.out; omega)
      have HT : Hid ((List.range (k + 1)).map (end2 l) = (List.range k).map (end2 l) ++ [end2 l k]) := Lib.hid (range_step _ _)
      have HFK : Hid (end2 l k = ⟨l.getD (i) 0, l.getD (i + 1) 0⟩) := Lib.hid (by unfold end2; rw [HI.out])
      rw [HFK.out] at HT
      have hkl : ((List.range k).map (end2 l)).length ≤ 100000 := by simp; omega
      have HO := Lib.hid (And.intro o0 o1)
      rw [hA]
      clear hA HFK o0 o1 hA1
      generalize (List.range k).map (end2 l) = acc at *
      generalize l.getD (i + 1) 0 = q1 at *
      generalize l.getD (i) 0 = q0 at *
      have HSS : Hid (∀ W, (OwnR cEnd W w.heap.size 107 u3 acc 0 ∧ Below w.heap.size w W) → (fun w' => w'.cell? ⟨b, off + i, none⟩ = some (.int .i64 q0) ∧ w'.cell? ⟨b, off + (i + 1), none⟩ = some (.int .i64 q1) ∧ (OwnR cEnd w' w.heap.size 107 u3 acc 0 ∧ Below w.heap.size w w')) W) := Lib.hid fun W h => ⟨(h.2.cell (p := ⟨b, off + i, none⟩) lb).trans y0, (h.2.cell (p := ⟨b, off + (i + 1), none⟩) lb).trans y1, h⟩
      have hi0' : (i : Int) < (l.length : Int) := by omega
      have hi1' : (i : Int) + 1 < (l.length : Int) := by omega
      have hp1 : (0 : Int) ≤ (i : Int) + 1 := by omega
      have hp2 : (0 : Int) ≤ (i : Int) + 2 := by omega
      have hp3 : ((i : Int) + 2).toNat = i + 2 := by omega
      have hp4 : ((i : Int) + 1).toNat = i + 1 := by omega
      clear y0 y1
      go_wp2_with fail
      refine wp_region_held_drew (S := (fun w' => w'.cell? ⟨b, off + i, none⟩ = some (.int .i64 q0) ∧ w'.cell? ⟨b, off + (i + 1), none⟩ = some (.int .i64 q1) ∧ (OwnR cEnd w' w.heap.size 107 u3 acc 0 ∧ Below w.heap.size w w'))) (by kernel_rfl) (HSS.out _ ⟨hown.drew, hb.drew⟩) (fun hHeld => ?_)
      refine tkY (i := 0) (oi := .mk _ _ _ _ _ _) (v := ?_) rfl (by kernel_rfl) (fun _ _ _ h => h) (Or.inl ⟨by rfl, ?_⟩) (by assumption) ?_
      rotate_left
      · intro W hSw; (try dsimp only at hSw); go_simp; first | done | with_reducible rfl
      try simp only [Act.put, lsa, lsz, lss]
      refine tkY (i := 1) (oi := .mk _ _ _ _ _ _) (v := ?_) rfl (by kernel_rfl) (fun _ _ _ h => h) (Or.inl ⟨by rfl, ?_⟩) (by assumption) ?_
      rotate_left
      · intro W hSw; (try dsimp only at hSw); go_simp; first | done | with_reducible rfl
      try simp only [Act.put, lsa, lsz, lss]
      refine tkY (i := 2) (oi := .mk _ _ _ _ _ _) (v := ?_) rfl (by kernel_rfl) (fun _ _ _ h => h) (Or.inl ⟨by rfl, ?_⟩) (by assumption) ?_
      rotate_left
      · intro W hSw; (try dsimp only at hSw); go_simp; first | done | with_reducible rfl
      try simp only [Act.put, lsa, lsz, lss]
      refine tkY (i := 3) (oi := .mk _ _ _ _ _ _) (v := ?_) rfl (by kernel_rfl) (fun _ _ _ h => h) (Or.inl ⟨by rfl, ?_⟩) (by assumption) ?_
      rotate_left
      · intro W hSw; (try dsimp only at hSw); go_simp; first | done | with_reducible rfl
      try simp only [Act.put, lsa, lsz, lss]
      refine tkY (i := 4) (oi := .mk _ _ _ _ _ _) (v := ?_) rfl (by kernel_rfl) (fun _ _ _ h => h) (Or.inl ⟨by rfl, ?_⟩) (by assumption) ?_
      rotate_left
      · intro W hSw; (try dsimp only at hSw); go_simp; first | done | with_reducible rfl
      try simp only [Act.put, lsa, lsz, lss]
      refine tkY (i := 5) (oi := .mk _ _ _ _ _ _) (v := ?_) rfl (by kernel_rfl) (fun _ _ _ h => h) (Or.inl ⟨by rfl, ?_⟩) (by assumption) ?_
      rotate_left
      · intro W hSw; (try dsimp only at hSw); go_simp; first | done | with_reducible rfl
      try simp only [Act.put, lsa, lsz, lss]
      refine tkY (i := 6) (oi := .mk _ _ _ _ _ _) (v := ?_) rfl (by kernel_rfl) (fun _ _ _ h => h) (Or.inl ⟨by rfl, ?_⟩) (by assumption) ?_
      rotate_left
      · intro W hSw; (try dsimp only at hSw); go_simp; first | done | with_reducible rfl
      try simp only [Act.put, lsa, lsz, lss]
      refine tkY (i := 7) (oi := .mk _ _ _ _ _ _) (v := ?_) rfl (by kernel_rfl) (fun _ _ _ h => h) (Or.inl ⟨by rfl, ?_⟩) (by assumption) ?_
      rotate_left
      · intro W hSw; (try dsimp only at hSw); go_simp; first | done | with_reducible rfl
      try simp only [Act.put, lsa, lsz, lss]
      refine tkY (i := 8) (oi := .mk _ _ _ _ _ _) (v := ?_) rfl (by kernel_rfl) (fun _ _ _ h => h) (Or.inl ⟨by rfl, ?_⟩) (by assumption) ?_
      rotate_left
      · intro W hSw; (try dsimp only at hSw); go_simp; first | done | with_reducible rfl
      try simp only [Act.put, lsa, lsz, lss]
      refine tkY (i := 9) (oi := .mk _ _ _ _ _ _) (v := ?_) rfl (by kernel_rfl) (fun _ _ _ h => h) (Or.inl ⟨by rfl, ?_⟩) (by assumption) ?_
      rotate_left
      · intro W hSw; (try dsimp only at hSw); go_simp; first | done | with_reducible rfl
      try simp only [Act.put, lsa, lsz, lss]
      refine tkY (i := 10) (oi := .mk _ _ _ _ _ _) (v := ?_) rfl (by kernel_rfl) (fun _ _ _ h => h) (Or.inl ⟨by rfl, ?_⟩) (by assumption) ?_
      rotate_left
      · intro W hSw; (try dsimp only at hSw); go_simp; first | done | with_reducible rfl
      try simp only [Act.put, lsa, lsz, lss]
      refine wpAnyH_ready (rs := [11]) (by kernel_rfl) (by simp) (AllReadyH.cons (o := .mk _ _ _ _ _ _) rfl (fun K hK => ?_) AllReadyH.nil)
      go_simp
      refine hK.out _ _ ?_ (fun hHeld => ?_)
      · exact HSS.out _ ⟨(hown.alloc _).drew, (hb.alloc hsz _).drew⟩
      clear hK K
      try simp only [Act.put, lsa, lsz, lss]
      have hoC := (hown.alloc (.cells #[.int .i64 q0, .int .i64 q1] 107)).drew
      have hbC := (hb.alloc hsz (.cells #[.int .i64 q0, .int .i64 q1] 107)).drew
      have hkC : Blk (wr.alloc (.cells #[.int .i64 q0, .int .i64 q1] 107)).drew wr.heap.size 107 [Value.int .i64 q0, Value.int .i64 q1].toArray := (Blk.new _ _ _ _ rfl).drew
      refine wpAnyH_ready (rs := [12]) (by kernel_rfl) (by simp) (AllReadyH.cons (o := .mk _ _ _ _ _ _) rfl (fun K hK => ?_) AllReadyH.nil)
      refine step_append_r (c := cEnd) rfl _ _ 39 rfl w.heap.size 107 i0 _ 16 Tryz.underlying39 hi0 hz0 hz1 hz2 rfl (by decide) u3 acc 0 rfl hoC [.int .i64 q0, .int .i64 q1] ⟨q0, q1⟩ ⟨rfl, HO.out⟩ (fun u hu => by (simp at hu; rcases hu with rfl | rfl <;> rfl)) _ rfl (blk_cells hkC) (by omega) (by omega) hbC.size ?_
      intro v5 w5 hown5 hold5 hf5
      have hb5 := hf5.keeps (Nat.le_refl _) hbC.size hbC
      refine hK.out _ _ ?_ (fun hHeld => ?_)
      · exact HSS.out _ ⟨hold5, hb5⟩
      clear hK K
      try simp only [Act.put, lsa, lsz, lss]
      refine tkY (i := 13) (oi := .mk _ _ _ _ _ _) (v := ?_) rfl (by kernel_rfl) (fun _ _ _ h => h) (Or.inl ⟨by rfl, ?_⟩) (by assumption) ?_
      rotate_left
      · intro W hSw; (try dsimp only at hSw); go_simp; first | done | with_reducible rfl
      try simp only [Act.put, lsa, lsz, lss]
      refine wpAnyH_done (by kernel_rfl) ?_ _
      go_wp2_with fail
      go_roundw
      case rel => exact ⟨k + 1, i + 2, hkn, by go_num, HI2, by rw [HT.out]; exact hown5.low cEnd_flat, hb5⟩
      case measure => simp [intOf]; omega
    · have hki : ¬ (i : Int) + 1 < (l.length : Int) := by omega
      have HE : Hid ((List.range k).map (end2 l) = gapsF l) := Lib.hid (by unfold gapsF; rw [show k = l.length / 2 by have := HI.out; omega])
      rw [HE.out] at hown
      obtain ⟨A', c', rfl⟩ := hown.form
      have HO := Lib.hid hown
      clear hown HE
      go_wp2_with fail
      go_ret
      exact ⟨A', c', rfl, HO.out, hb⟩
end Go.Proofs.YtlblfblkallnhaaGreatDoor
