/- The walk of the reference's Print of tables. -/
import Derived.Test.YtlblfblkallnhaaGreatDoorTbRpA
import Derived.Test.YtlblfblkallnhaaGreatDoorTbRkD
import Derived.Test.YtlblfblkallnhaaGreatDoorTbPrint
namespace Go.Proofs.YtlblfblkallnhaaGreatDoor
set_option linter.unusedVariables false
set_option linter.unusedSimpArgs false
open Go.RowKit
attribute [local go_sem] bs_size bs_get bs_append bs_extract bs_toList
attribute [-go_sem] run_equalIn_agg
theorem rfmtE (n : Int) (W : World) (hn : I64n n) : Calls Tryz.prog 24 #[.int .i64 n] W fun e w' => e = .returned (.string (bs (Lib.itoa n))) ∧ Below W.heap.size W w' := (rformat_any n W hn.1 hn.2).mono fun _ _ h => ⟨h.1, h.2 ▸ Below.refl _ _⟩
theorem rtcheckC {c : Int} (v : TabV) (h : chkT v.t = c) (w : World) (hr : TvR w v) (hsm : SecsOk v.t) : Calls Tryz.prog 23 #[tvA v] w fun e w' => e = .returned (.int .i64 c) ∧ Below w.heap.size w w' := h ▸ rcheckT_any v w hr hsm
theorem rtsK_stepL {t : Tab} {k : Nat} (h : k < t.rts.length) : rtsK t (k + 1) = (rtsK t k ++ [rhead t.rts[k]]) ++ listsR t.rts[k] := by rw [rtsK_step h, nineK_all]
set_option maxRecDepth 100000 in
set_option maxHeartbeats 40000000 in
theorem rtprint_any (v : TabV) (w : World) (hr : TvR w v) (hsm : ∀ r ∈ v.t.rts, ShR r) : Calls Tryz.prog 11 #[tvA v] w fun e w' => e = .returned (.tuple #[.string (bs (prtT v.t).1), .int .i64 (prtT v.t).2]) ∧ Below w.heap.size w w' := by
  have hb0 := Bx.new hr
  have x0 := hb0.x0
  have x1 := hb0.x1
  have x2 := hb0.x2
  have x3 := hb0.x3
  have x4 := hb0.x4
  have hsc : SecsOk v.t := fun r h => by obtain ⟨_, _, h3, _, _, h6, _⟩ := hsm r h; exact ⟨Nat.le_trans h3 (by omega), Nat.le_trans h6 (by omega)⟩
  obtain ⟨c, hc⟩ : ∃ c, chkT v.t = c := ⟨_, rfl⟩
  have HC := Lib.hid fun W h => rtcheckC v hc W h hsc
  by_cases h0 : c = 0
  case neg =>
    have HP := Lib.hid (prtT_bad hc h0)
    have hne : (c != 0) = true := by simpa using h0
    clear hc h0
    unfold tvA at HC ⊢
    go_enter Tryz.func11, Tryz.ntmps11
    go_wp2_with fail
    refine (HC.out _ hb0.rd).mono ?_
    rintro e w1 ⟨rfl, hq⟩
    have hB := (hb0.now hq).bel
    clear x0 x1 x2 x3 x4 hb0 hq
    go_wp2_with fail
    go_ret2
    exact ⟨by rw [HP.out]; rfl, hB⟩
  subst h0
  have HP := Lib.hid (prtT_good hc)
  obtain ⟨hk1, hk2, hk3, hk4, hk5, hk6⟩ := chkT_ok hc
  have hhl := pts_len hc
  have hlim : v.t.rts.length ≤ 48 ∧ v.t.pts.length ≤ 32 := by unfold limB at hk1; simp only [Bool.and_eq_true, decide_eq_true_eq] at hk1; exact ⟨hk1.1, hk1.2.1⟩
  obtain ⟨hl1, hl2⟩ := hlim
  have HF := Lib.hid rfmtE
  have HR := Lib.hid hr
  have HSM := Lib.hid hsm
  obtain ⟨i0, hi0, hz0, hz1, hz2⟩ := info_parts infoStrT
  obtain ⟨j0, hj0, hy0, hy1, hy2⟩ := info_parts infoStrsT
  have hs1 := hr.sec
  have hs2 := hr.sig
  have hil1 := itoaP_len _ hs1
  have hil2 := itoaP_len _ hs2
  have HHL := Lib.hid hhl
  clear hc hk1 hk2 hk3 hk4 hk5 hk6 hsm hr hsc hhl
  unfold tvA at HC ⊢
  go_enter Tryz.func11, Tryz.ntmps11
  go_wp2_with fail
  refine (HC.out _ hb0.rd).mono ?_
  rintro e w1 ⟨rfl, hq⟩
  have hb1 := hb0.now hq
  clear x0 x1 x2 x3 x4 hb0 hq HC
  have HS1 := Lib.hid hs1
  have HS2 := Lib.hid hs2
  clear hs1 hs2
  go_wp2_with fail
  have hS : ∀ W, Bx w W v → (fun w' => w'.cell? ⟨w.heap.size, 3, none⟩ = some (.int .i64 v.t.nsec) ∧ w'.cell? ⟨w.heap.size, 4, none⟩ = some (.int .i64 v.t.nsig) ∧ Bx w w' v) W := fun W h => ⟨h.x3, h.x4, h⟩
  refine wp_region_held_drew (S := (fun w' => w'.cell? ⟨w.heap.size, 3, none⟩ = some (.int .i64 v.t.nsec) ∧ w'.cell? ⟨w.heap.size, 4, none⟩ = some (.int .i64 v.t.nsig) ∧ Bx w w' v)) (by kernel_rfl) (hS _ hb1.drew) (fun hHeld => ?_)
  refine tkY (i := 0) (oi := .mk (some 14) (.fieldAddr 25 (.tmp 1) 3) 0 "ref.go:73" #[] none) (v := ?_) rfl (by kernel_rfl) (fun _ _ _ h => h) (Or.inl ⟨by rfl, ?_⟩) (by assumption) ?_
  rotate_left
  · intro W hSw; (try dsimp only at hSw); go_simp; first | done | with_reducible rfl
  try simp only [Act.put, lsa, lsz, lss]
  refine tkY (i := 1) (oi := .mk (some 15) (.load 3 (.tmp 14)) 3 "ref.go:73" #[.mk 0 .data] none) (v := ?_) rfl (by kernel_rfl) (fun _ _ _ h => h) (Or.inl ⟨by rfl, ?_⟩) (by assumption) ?_
  rotate_left
  · intro W hSw; (try dsimp only at hSw); go_simp; first | done | with_reducible rfl
  try simp only [Act.put, lsa, lsz, lss]
  refine tkY (i := 3) (oi := .mk (some 17) (.fieldAddr 25 (.tmp 1) 4) 0 "ref.go:73" #[] none) (v := ?_) rfl (by kernel_rfl) (fun _ _ _ h => h) (Or.inl ⟨by rfl, ?_⟩) (by assumption) ?_
  rotate_left
  · intro W hSw; (try dsimp only at hSw); go_simp; first | done | with_reducible rfl
  try simp only [Act.put, lsa, lsz, lss]
  refine tkY (i := 4) (oi := .mk (some 18) (.load 3 (.tmp 17)) 3 "ref.go:73" #[.mk 3 .data] none) (v := ?_) rfl (by kernel_rfl) (fun _ _ _ h => h) (Or.inl ⟨by rfl, ?_⟩) (by assumption) ?_
  rotate_left
  · intro W hSw; (try dsimp only at hSw); go_simp; first | done | with_reducible rfl
  try simp only [Act.put, lsa, lsz, lss]
  refine wpAnyH_ready (rs := [2]) (by kernel_rfl) (by simp) (AllReadyH.cons (o := .mk (some 16) (.call (.mk (.value (.func 24)) #[.tmp 15] #[3])) 9 "ref.go:73" #[.mk 1 .data] none) rfl (fun K hK => ?_) AllReadyH.nil)
  obtain ⟨-, -, hh⟩ := id hHeld
  go_simp
  go_at_call 24
  refine (HF.out _ _ HS1.out).mono ?_
  rintro e wq ⟨rfl, hq⟩
  have hq0 := hS _ (hh.now hq)
  clear hh
  go_wp2_with fail
  refine hK.out _ _ ?_ (fun hHeld => ?_)
  · exact hq0
  clear hK K
  try simp only [Act.put, lsa, lsz, lss]
  clear hq0 hq
  refine wpAnyH_ready (rs := [5]) (by kernel_rfl) (by simp) (AllReadyH.cons (o := .mk (some 19) (.call (.mk (.value (.func 24)) #[.tmp 18] #[3])) 9 "ref.go:73" #[.mk 4 .data, .mk 2 .chain] none) rfl (fun K hK => ?_) AllReadyH.nil)
  obtain ⟨-, -, hh⟩ := id hHeld
  go_simp
  go_at_call 24
  refine (HF.out _ _ HS2.out).mono ?_
  rintro e wq ⟨rfl, hq⟩
  have hq0 := hS _ (hh.now hq)
  clear hh
  go_wp2_with fail
  refine hK.out _ _ ?_ (fun hHeld => ?_)
  · exact hq0
  clear hK K
  try simp only [Act.put, lsa, lsz, lss]
  obtain ⟨-, -, hh⟩ := id hHeld
  clear hq0 hq hHeld
  refine wpAnyH_ready (rs := [6]) (by kernel_rfl) (by simp) (AllReadyH.cons (o := .mk (some 20) (.buildSlice 46 3 #[(0, .const (.string (.mk #[116, 97, 98, 108, 101]))), (1, .tmp 16), (2, .tmp 19)]) 46 "ref.go:73" #[.mk 2 .data, .mk 5 .data] none) rfl (fun K hK => ?_) AllReadyH.nil)
  go_simp
  refine hK.out _ _ ?_ (fun hHeld => ?_)
  · exact hS _ (hh.alloc _)
  clear hK K
  try simp only [Act.put, lsa, lsz, lss]
  refine wpAnyH_ready (rs := [7]) (by kernel_rfl) (by simp) (AllReadyH.cons (o := .mk (some 21) (.buildSlice 43 1 #[(0, .tmp 20)]) 43 "ref.go:73" #[.mk 6 .data] none) rfl (fun K hK => ?_) AllReadyH.nil)
  go_simp
  refine hK.out _ _ ?_ (fun hHeld => ?_)
  · exact hS _ ((hh.alloc _).alloc _)
  clear hK K
  try simp only [Act.put, lsa, lsz, lss]
  refine tkY (i := 8) (oi := .mk (some 5) (.assign (.tmp 21)) 43 "ref.go:73" #[.mk 7 .data, .mk 5 .chain, .mk 0 .phase, .mk 1 .phase, .mk 2 .phase, .mk 3 .phase, .mk 4 .phase, .mk 5 .phase, .mk 6 .phase, .mk 7 .phase] none) (v := ?_) rfl (by kernel_rfl) (fun _ _ _ h => h) (Or.inl ⟨by rfl, ?_⟩) (by assumption) ?_
  rotate_left
  · intro W hSw; (try dsimp only at hSw); go_simp; first | done | with_reducible rfl
  try simp only [Act.put, lsa, lsz, lss]
  refine wpAnyH_done (by kernel_rfl) ?_ _
  have hk1 : Blk ((wq.alloc (.cells #[.string { data := #[116, 97, 98, 108, 101] }, .string (bs (Lib.itoa v.t.nsec)), .string (bs (Lib.itoa v.t.nsig))] 9)).alloc (.cells #[.slice (some ⟨wq.heap.size, 0, none⟩) 3 3] 46)) wq.heap.size 9 ((thead v.t).map fun x => Value.string (bs x)).toArray := (Blk.new wq _ _ _ rfl).alloc _
  have hk2 : Blk ((wq.alloc (.cells #[.string { data := #[116, 97, 98, 108, 101] }, .string (bs (Lib.itoa v.t.nsec)), .string (bs (Lib.itoa v.t.nsig))] 9)).alloc (.cells #[.slice (some ⟨wq.heap.size, 0, none⟩) 3 3] 46)) (wq.heap.size + 1) 46 #[.slice (some ⟨wq.heap.size, 0, none⟩) 3 3] := Blk.new _ _ _ _ (by simp)
  have hszq := hh.bel.size
  have hrow := row_one (base := w.heap.size) hk2 (words := thead v.t) rfl hk1 (fun x hx => by (simp only [thead, List.mem_cons, List.not_mem_nil, or_false] at hx; rcases hx with rfl | rfl | rfl; exact Nat.le_trans (show tableW.length ≤ 6 by decide) (by unfold maxLen; omega); (unfold maxLen; omega); (unfold maxLen; omega))) (by decide) (by unfold maxLen; simp [thead]) (by omega)
  have hln : LnT w _ v _ (ptsK v.t 0) := ⟨(hh.alloc _).alloc _, hrow⟩
  clear hk1 hk2 hrow hh hS hb1 hszq hHeld
  go_wp2_with fail
  generalize (wq.alloc (.cells #[.string { data := #[116, 97, 98, 108, 101] }, .string (bs (Lib.itoa v.t.nsec)), .string (bs (Lib.itoa v.t.nsig))] 9)).alloc (.cells #[.slice (some ⟨wq.heap.size, 0, none⟩) 3 3] 46) = w2 at *
  generalize wq.heap.size = gq at *
  go_loopw [5, 6] (fun s n wr => ∃ k : Nat, k ≤ v.t.pts.length ∧ n = .int .i64 k ∧ LnT w wr v s (ptsK v.t k)) (fun _ n _ => v.t.pts.length - (intOf n).toNat)
  case atStart => exact ⟨0, Nat.zero_le _, rfl, hln⟩
  case round =>
    obtain ⟨k, hk, rfl, hl⟩ := hrel
    clear hln
    have hsz := hl.bel.size
    have x1 := hl.1.x1
    by_cases hlt : k < v.t.pts.length
    · have hki : (k : Int) < (v.t.pts.length : Int) := by omega
      have hlh : k < v.t.homes.length := by have := HHL.out; omega
      have hkh : (k : Int) < (v.t.homes.length : Int) := by omega
      obtain ⟨b, off, hA, lb, hq0, y0⟩ := HR.out.r2.elI hlt
      obtain ⟨b2, o2, hA2, lb2, hm0, z0⟩ := HR.out.r3.elI hlh
      have lb1' : b < w.heap.size := lb
      have lb2' : b2 < w.heap.size := lb2
      have HT := Lib.hid (ptsK_step hlt hlh)
      have hlen := ptsK_len v.t k
      have hiq := itoaP_len _ hq0
      have him := itoaP_len _ hm0
      obtain ⟨lns, hlns⟩ : ∃ x, ptsK v.t k = x := ⟨_, rfl⟩
      rw [hlns] at hl HT hlen
      clear hlns
      have HQ := Lib.hid hq0
      have HM := Lib.hid hm0
      have hlk : lns.length ≤ 100 := by omega
      clear hq0 hm0 hlen
      generalize v.t.pts[k] = q at *
      generalize v.t.homes[k] = m at *
      have hS : ∀ W, LnT w W v u5 lns → (fun w' => w'.cell? ⟨w.heap.size, 1, none⟩ = some (.slice (some ⟨b, off, none⟩) v.t.pts.length v.c2) ∧ w'.cell? ⟨b, off + k, none⟩ = some (.int .i64 q) ∧ w'.cell? ⟨w.heap.size, 2, none⟩ = some (.slice (some ⟨b2, o2, none⟩) v.t.homes.length v.c3) ∧ w'.cell? ⟨b2, o2 + k, none⟩ = some (.int .i64 m) ∧ LnT w w' v u5 lns) W := fun W h => ⟨by rw [← hA]; exact h.1.x1, (h.bel.cell (p := ⟨b, off + k, none⟩) lb1').trans y0, by rw [← hA2]; exact h.1.x2, (h.bel.cell (p := ⟨b2, o2 + k, none⟩) lb2').trans z0, h⟩
      have HSS := Lib.hid hS
      clear hS
      rw [hA] at x1 ⊢
      try rw [hA2]
      have HA := Lib.hid hA
      have HA2 := Lib.hid hA2
      clear hA hA2 y0 z0
      go_wp2_with fail
      clear x1
      refine wp_region_held_drew (S := (fun w' => w'.cell? ⟨w.heap.size, 1, none⟩ = some (.slice (some ⟨b, off, none⟩) v.t.pts.length v.c2) ∧ w'.cell? ⟨b, off + k, none⟩ = some (.int .i64 q) ∧ w'.cell? ⟨w.heap.size, 2, none⟩ = some (.slice (some ⟨b2, o2, none⟩) v.t.homes.length v.c3) ∧ w'.cell? ⟨b2, o2 + k, none⟩ = some (.int .i64 m) ∧ LnT w w' v u5 lns)) (by kernel_rfl) (HSS.out _ hl.drew) (fun hHeld => ?_)
      refine tkY (i := 0) (oi := .mk (some 29) (.move (.tmp 5)) 43 "ref.go:75" #[] none) (v := ?_) rfl (by kernel_rfl) (fun _ _ _ h => h) (Or.inl ⟨by rfl, ?_⟩) (by assumption) ?_
      rotate_left
      · intro W hSw; (try dsimp only at hSw); go_simp; first | done | with_reducible rfl
      try simp only [Act.put, lsa, lsz, lss]
      refine tkY (i := 1) (oi := .mk (some 30) (.fieldAddr 25 (.tmp 1) 1) 0 "ref.go:75" #[] none) (v := ?_) rfl (by kernel_rfl) (fun _ _ _ h => h) (Or.inl ⟨by rfl, ?_⟩) (by assumption) ?_
      rotate_left
      · intro W hSw; (try dsimp only at hSw); go_simp; first | done | with_reducible rfl
      try simp only [Act.put, lsa, lsz, lss]
      refine tkY (i := 2) (oi := .mk (some 31) (.load 23 (.tmp 30)) 23 "ref.go:75" #[.mk 1 .data] none) (v := ?_) rfl (by kernel_rfl) (fun _ _ _ h => h) (Or.inl ⟨by rfl, ?_⟩) (by assumption) ?_
      rotate_left
      · intro W hSw; (try dsimp only at hSw); go_simp; first | done | with_reducible rfl
      try simp only [Act.put, lsa, lsz, lss]
      refine tkY (i := 3) (oi := .mk (some 32) (.move (.tmp 6)) 3 "ref.go:75" #[] none) (v := ?_) rfl (by kernel_rfl) (fun _ _ _ h => h) (Or.inl ⟨by rfl, ?_⟩) (by assumption) ?_
      rotate_left
      · intro W hSw; (try dsimp only at hSw); go_simp; first | done | with_reducible rfl
      try simp only [Act.put, lsa, lsz, lss]
      refine tkY (i := 4) (oi := .mk (some 33) (.indexAddr 23 (.tmp 31) (.tmp 32)) 0 "ref.go:75" #[.mk 2 .data, .mk 3 .data] none) (v := ?_) rfl (by kernel_rfl) (fun _ _ _ h => h) (Or.inl ⟨by rfl, ?_⟩) (by assumption) ?_
      rotate_left
      · intro W hSw; (try dsimp only at hSw); go_simp; first | done | with_reducible rfl
      try simp only [Act.put, lsa, lsz, lss]
      refine tkY (i := 5) (oi := .mk (some 34) (.load 3 (.tmp 33)) 3 "ref.go:75" #[.mk 4 .data] none) (v := ?_) rfl (by kernel_rfl) (fun _ _ _ h => h) (Or.inl ⟨by rfl, ?_⟩) (by assumption) ?_
      rotate_left
      · intro W hSw; (try dsimp only at hSw); go_simp; first | done | with_reducible rfl
      try simp only [Act.put, lsa, lsz, lss]
      refine tkY (i := 7) (oi := .mk (some 36) (.fieldAddr 25 (.tmp 1) 2) 0 "ref.go:75" #[] none) (v := ?_) rfl (by kernel_rfl) (fun _ _ _ h => h) (Or.inl ⟨by rfl, ?_⟩) (by assumption) ?_
      rotate_left
      · intro W hSw; (try dsimp only at hSw); go_simp; first | done | with_reducible rfl
      try simp only [Act.put, lsa, lsz, lss]
      refine tkY (i := 8) (oi := .mk (some 37) (.load 23 (.tmp 36)) 23 "ref.go:75" #[.mk 7 .data] none) (v := ?_) rfl (by kernel_rfl) (fun _ _ _ h => h) (Or.inl ⟨by rfl, ?_⟩) (by assumption) ?_
      rotate_left
      · intro W hSw; (try dsimp only at hSw); go_simp; first | done | with_reducible rfl
      try simp only [Act.put, lsa, lsz, lss]
      refine tkY (i := 9) (oi := .mk (some 38) (.move (.tmp 6)) 3 "ref.go:75" #[] none) (v := ?_) rfl (by kernel_rfl) (fun _ _ _ h => h) (Or.inl ⟨by rfl, ?_⟩) (by assumption) ?_
      rotate_left
      · intro W hSw; (try dsimp only at hSw); go_simp; first | done | with_reducible rfl
      try simp only [Act.put, lsa, lsz, lss]
      refine tkY (i := 10) (oi := .mk (some 39) (.indexAddr 23 (.tmp 37) (.tmp 38)) 0 "ref.go:75" #[.mk 8 .data, .mk 9 .data] none) (v := ?_) rfl (by kernel_rfl) (fun _ _ _ h => h) (Or.inl ⟨by rfl, ?_⟩) (by assumption) ?_
      rotate_left
      · intro W hSw; (try dsimp only at hSw); go_simp; first | done | with_reducible rfl
      try simp only [Act.put, lsa, lsz, lss]
      refine tkY (i := 11) (oi := .mk (some 40) (.load 3 (.tmp 39)) 3 "ref.go:75" #[.mk 10 .data] none) (v := ?_) rfl (by kernel_rfl) (fun _ _ _ h => h) (Or.inl ⟨by rfl, ?_⟩) (by assumption) ?_
      rotate_left
      · intro W hSw; (try dsimp only at hSw); go_simp; first | done | with_reducible rfl
      try simp only [Act.put, lsa, lsz, lss]
      refine wpAnyH_ready (rs := [6]) (by kernel_rfl) (by simp) (AllReadyH.cons (o := .mk (some 35) (.call (.mk (.value (.func 24)) #[.tmp 34] #[3])) 9 "ref.go:75" #[.mk 5 .data] none) rfl (fun K hK => ?_) AllReadyH.nil)
      obtain ⟨-, -, -, -, hh⟩ := id hHeld
      go_simp
      go_at_call 24
      refine (HF.out _ _ HQ.out).mono ?_
      rintro e wq ⟨rfl, hq⟩
      have hq0 := HSS.out _ (hh.now hq)
      clear hh
      go_wp2_with fail
      refine hK.out _ _ ?_ (fun hHeld => ?_)
      · exact hq0
      clear hK K
      try simp only [Act.put, lsa, lsz, lss]
      clear hq0 hq
      refine wpAnyH_ready (rs := [12]) (by kernel_rfl) (by simp) (AllReadyH.cons (o := .mk (some 41) (.call (.mk (.value (.func 24)) #[.tmp 40] #[3])) 9 "ref.go:75" #[.mk 11 .data, .mk 6 .chain] none) rfl (fun K hK => ?_) AllReadyH.nil)
      obtain ⟨-, -, -, -, hh⟩ := id hHeld
      go_simp
      go_at_call 24
      refine (HF.out _ _ HM.out).mono ?_
      rintro e wq ⟨rfl, hq⟩
      have hq0 := HSS.out _ (hh.now hq)
      clear hh
      go_wp2_with fail
      refine hK.out _ _ ?_ (fun hHeld => ?_)
      · exact hq0
      clear hK K
      try simp only [Act.put, lsa, lsz, lss]
      obtain ⟨-, -, -, -, hh⟩ := id hHeld
      clear hq0 hq hHeld
      refine wpAnyH_ready (rs := [13]) (by kernel_rfl) (by simp) (AllReadyH.cons (o := .mk (some 42) (.buildSlice 46 3 #[(0, .const (.string (.mk #[112, 111, 105, 110, 116]))), (1, .tmp 35), (2, .tmp 41)]) 46 "ref.go:75" #[.mk 6 .data, .mk 12 .data] none) rfl (fun K hK => ?_) AllReadyH.nil)
      go_simp
      refine hK.out _ _ ?_ (fun hHeld => ?_)
      · exact HSS.out _ (hh.alloc _)
      clear hK K
      try simp only [Act.put, lsa, lsz, lss]
      refine wpAnyH_ready (rs := [14]) (by kernel_rfl) (by simp) (AllReadyH.cons (o := .mk (some 43) (.buildSlice 43 1 #[(0, .tmp 42)]) 43 "ref.go:75" #[.mk 13 .data] none) rfl (fun K hK => ?_) AllReadyH.nil)
      go_simp
      refine hK.out _ _ ?_ (fun hHeld => ?_)
      · exact HSS.out _ ((hh.alloc _).alloc _)
      clear hK K
      try simp only [Act.put, lsa, lsz, lss]
      have hlC : LnT w ((wq.alloc (.cells #[.string { data := #[112, 111, 105, 110, 116] }, .string (bs (Lib.itoa q)), .string (bs (Lib.itoa m))] 9)).alloc (.cells #[.slice (some ⟨wq.heap.size, 0, none⟩) 3 3] 46)) v u5 lns := (hh.alloc _).alloc _
      have hkC : Blk ((wq.alloc (.cells #[.string { data := #[112, 111, 105, 110, 116] }, .string (bs (Lib.itoa q)), .string (bs (Lib.itoa m))] 9)).alloc (.cells #[.slice (some ⟨wq.heap.size, 0, none⟩) 3 3] 46)) wq.heap.size 9 ((ptW (q, m)).map fun x => Value.string (bs x)).toArray := (Blk.new wq _ _ _ rfl).alloc _
      have hkD : Blk ((wq.alloc (.cells #[.string { data := #[112, 111, 105, 110, 116] }, .string (bs (Lib.itoa q)), .string (bs (Lib.itoa m))] 9)).alloc (.cells #[.slice (some ⟨wq.heap.size, 0, none⟩) 3 3] 46)) (wq.heap.size + 1) 46 [.slice (some ⟨wq.heap.size, 0, none⟩) 3 3].toArray := Blk.new _ _ _ _ (by simp)
      have hrdC := line_rd (T' := 46) hkC (fun x hx => by (simp only [ptW, List.mem_cons, List.not_mem_nil, or_false] at hx; rcases hx with rfl | rfl | rfl; exact Nat.le_trans (show pointW.length ≤ 6 by decide) (by unfold maxLen; omega); (unfold maxLen; omega); (unfold maxLen; omega))) (by decide) (by unfold maxLen; simp [ptW])
      refine wpAnyH_ready (rs := [15]) (by kernel_rfl) (by simp) (AllReadyH.cons (o := .mk (some 44) (.call (.mk (.builtin .append) #[.tmp 29, .tmp 43] #[43, 43])) 43 "ref.go:75" #[.mk 0 .data, .mk 14 .data, .mk 12 .chain] none) rfl (fun K hK => ?_) AllReadyH.nil)
      refine step_append_r rfl _ _ 43 rfl w.heap.size 46 j0 _ 24 Tryz.underlying43 hj0 hy0 hy1 hy2 rfl (by decide) u5 lns _ rfl hlC.2 [_] (ptW (q, m)) hrdC (fun u hu => by (simp at hu; subst hu; rfl)) _ rfl (blk_cells hkD) (by omega) (by omega) hlC.bel.size ?_
      intro v5 w5 hown5 hold5 hf5
      have hn5 : LnT w w5 v u5 lns := ⟨hlC.1.frm HR.out hf5 (by decide), hold5.raise hf5.size (Nat.le_refl _)⟩
      have hl5 := hlC.push HR.out hown5 hf5
      refine hK.out _ _ ?_ (fun hHeld => ?_)
      · exact HSS.out _ hn5
      clear hK K
      try simp only [Act.put, lsa, lsz, lss]
      refine tkY (i := 16) (oi := .mk (some 5) (.assign (.tmp 44)) 43 "ref.go:75" #[.mk 15 .data, .mk 15 .chain, .mk 0 .phase, .mk 1 .phase, .mk 2 .phase, .mk 3 .phase, .mk 4 .phase, .mk 5 .phase, .mk 6 .phase, .mk 7 .phase, .mk 8 .phase, .mk 9 .phase, .mk 10 .phase, .mk 11 .phase, .mk 12 .phase, .mk 13 .phase, .mk 14 .phase, .mk 15 .phase] none) (v := ?_) rfl (by kernel_rfl) (fun _ _ _ h => h) (Or.inl ⟨by rfl, ?_⟩) (by assumption) ?_
      rotate_left
      · intro W hSw; (try dsimp only at hSw); go_simp; first | done | with_reducible rfl
      try simp only [Act.put, lsa, lsz, lss]
      refine wpAnyH_done (by kernel_rfl) ?_ _
      go_wp2_with fail
      go_roundw
      case rel => exact ⟨k + 1, by omega, by go_num, by rw [HT.out]; exact hl5⟩
      case measure => simp [intOf]; omega
    · have HE := Lib.hid (ptsK_all hlt)
      have HE2 : Hid (ptsK v.t k = rtsK v.t 0) := Lib.hid (by rw [HE.out]; simp [rtsK])
      rw [HE2.out] at hl
      clear hk HE HE2
      go_wp2_with fail
      clear x1
      go_loopw [5, 7] (fun s n wr => ∃ k : Nat, k ≤ v.t.rts.length ∧ n = .int .i64 k ∧ LnT w wr v s (rtsK v.t k)) (fun _ n _ => v.t.rts.length - (intOf n).toNat)
      case atStart => exact ⟨0, Nat.zero_le _, rfl, hl⟩
      case round =>
        clear hl
        obtain ⟨k, hk, rfl, hl⟩ := hrel
        have hsz := hl.bel.size
        have x0 := hl.1.x0
        by_cases hlt : k < v.t.rts.length
        · have hki : (k : Int) < (v.t.rts.length : Int) := by omega
          obtain ⟨b, off, r, hA, lb, hre, hrv, y0, y1, y2, y3, y4, y5, y6, y7, y8, y9, y10, y11, y12, y13⟩ := HR.out.r1.elR hlt
          have lb' : b < w.heap.size := lb
          replace y0 := (hl.bel.cell (p := ⟨b, off + k * 14, none⟩) lb').trans y0
          replace y1 := (hl.bel.cell (p := ⟨b, off + k * 14 + 1, none⟩) lb').trans y1
          replace y2 := (hl.bel.cell (p := ⟨b, off + k * 14 + 2, none⟩) lb').trans y2
          replace y3 := (hl.bel.cell (p := ⟨b, off + k * 14 + 3, none⟩) lb').trans y3
          replace y4 := (hl.bel.cell (p := ⟨b, off + k * 14 + 4, none⟩) lb').trans y4
          replace y5 := (hl.bel.cell (p := ⟨b, off + k * 14 + 5, none⟩) lb').trans y5
          replace y6 := (hl.bel.cell (p := ⟨b, off + k * 14 + 6, none⟩) lb').trans y6
          replace y7 := (hl.bel.cell (p := ⟨b, off + k * 14 + 7, none⟩) lb').trans y7
          replace y8 := (hl.bel.cell (p := ⟨b, off + k * 14 + 8, none⟩) lb').trans y8
          replace y9 := (hl.bel.cell (p := ⟨b, off + k * 14 + 9, none⟩) lb').trans y9
          replace y10 := (hl.bel.cell (p := ⟨b, off + k * 14 + 10, none⟩) lb').trans y10
          replace y11 := (hl.bel.cell (p := ⟨b, off + k * 14 + 11, none⟩) lb').trans y11
          replace y12 := (hl.bel.cell (p := ⟨b, off + k * 14 + 12, none⟩) lb').trans y12
          replace y13 := (hl.bel.cell (p := ⟨b, off + k * 14 + 13, none⟩) lb').trans y13
          have hre' : v.t.rts[k] = r.r := hre.symm
          have hsh := HSM.out _ (List.getElem_mem hlt)
          rw [hre'] at hsh
          have HT := Lib.hid (rtsK_stepL hlt)
          rw [hre'] at HT
          have hlen := rtsK_len v.t k hk
          obtain ⟨lns, hlns⟩ : ∃ x, rtsK v.t k = x := ⟨_, rfl⟩
          rw [hlns] at hl HT hlen
          clear hlns hre hre'
          have hlk : lns.length ≤ 600 := by omega
          clear hlen
          have hnm := hrv.o.nm
          have HI1 := Lib.hid hrv.o.ent
          have HI2 := Lib.hid hrv.o.ext
          have HI3 := Lib.hid hrv.o.app
          have HI4 := Lib.hid hrv.o.len
          have i1 := itoaP_len _ HI1.out
          have i2 := itoaP_len _ HI2.out
          have i3 := itoaP_len _ HI3.out
          have i4 := itoaP_len _ HI4.out
          have HRV := Lib.hid hrv
          have HSH := Lib.hid hsh
          clear hrv hsh
          have hla := hl.alloc (.cells #[.string (bs r.r.name), .int .i64 r.r.ent, .int .i64 r.r.ext, .slice r.A1 r.r.path.length r.c1, .slice r.A2 r.r.pts.length r.c2, .slice r.A3 r.r.secs.length r.c3, .int .i64 r.r.app, .int .i64 r.r.len, .slice r.A4 r.r.over.length r.c4, .slice r.A5 r.r.opts.length r.c5, .slice r.A6 r.r.osecs.length r.c6, .slice r.A7 r.r.flk.length r.c7, .slice r.A8 r.r.grd.length r.c8, .slice r.A9 r.r.gap.length r.c9] 41)
          have hbk : Blk (wr.alloc (.cells #[.string (bs r.r.name), .int .i64 r.r.ent, .int .i64 r.r.ext, .slice r.A1 r.r.path.length r.c1, .slice r.A2 r.r.pts.length r.c2, .slice r.A3 r.r.secs.length r.c3, .int .i64 r.r.app, .int .i64 r.r.len, .slice r.A4 r.r.over.length r.c4, .slice r.A5 r.r.opts.length r.c5, .slice r.A6 r.r.osecs.length r.c6, .slice r.A7 r.r.flk.length r.c7, .slice r.A8 r.r.grd.length r.c8, .slice r.A9 r.r.gap.length r.c9] 41)) wr.heap.size 41 #[.string (bs r.r.name), .int .i64 r.r.ent, .int .i64 r.r.ext, .slice r.A1 r.r.path.length r.c1, .slice r.A2 r.r.pts.length r.c2, .slice r.A3 r.r.secs.length r.c3, .int .i64 r.r.app, .int .i64 r.r.len, .slice r.A4 r.r.over.length r.c4, .slice r.A5 r.r.opts.length r.c5, .slice r.A6 r.r.osecs.length r.c6, .slice r.A7 r.r.flk.length r.c7, .slice r.A8 r.r.grd.length r.c8, .slice r.A9 r.r.gap.length r.c9] := Blk.new _ _ _ _ rfl
          rw [hA] at x0
          try rw [hA]
          clear hA
          go_wp2_with fail
          generalize wr.alloc (.cells #[.string (bs r.r.name), .int .i64 r.r.ent, .int .i64 r.r.ext, .slice r.A1 r.r.path.length r.c1, .slice r.A2 r.r.pts.length r.c2, .slice r.A3 r.r.secs.length r.c3, .int .i64 r.r.app, .int .i64 r.r.len, .slice r.A4 r.r.over.length r.c4, .slice r.A5 r.r.opts.length r.c5, .slice r.A6 r.r.osecs.length r.c6, .slice r.A7 r.r.flk.length r.c7, .slice r.A8 r.r.grd.length r.c8, .slice r.A9 r.r.gap.length r.c9] 41) = W0 at *
          generalize wr.heap.size = ge at *
          clear x0 y0 y1 y2 y3 y4 y5 y6 y7 y8 y9 y10 y11 y12 y13
          have HSS : Hid (∀ W, (LnT w W v u5 lns ∧ Blk W ge 41 #[.string (bs r.r.name), .int .i64 r.r.ent, .int .i64 r.r.ext, .slice r.A1 r.r.path.length r.c1, .slice r.A2 r.r.pts.length r.c2, .slice r.A3 r.r.secs.length r.c3, .int .i64 r.r.app, .int .i64 r.r.len, .slice r.A4 r.r.over.length r.c4, .slice r.A5 r.r.opts.length r.c5, .slice r.A6 r.r.osecs.length r.c6, .slice r.A7 r.r.flk.length r.c7, .slice r.A8 r.r.grd.length r.c8, .slice r.A9 r.r.gap.length r.c9]) → (fun w' => w'.cell? ⟨ge, 0, none⟩ = some (.string (bs r.r.name)) ∧ w'.cell? ⟨ge, 1, none⟩ = some (.int .i64 r.r.ent) ∧ w'.cell? ⟨ge, 2, none⟩ = some (.int .i64 r.r.ext) ∧ w'.cell? ⟨ge, 6, none⟩ = some (.int .i64 r.r.app) ∧ w'.cell? ⟨ge, 7, none⟩ = some (.int .i64 r.r.len) ∧ (LnT w w' v u5 lns ∧ Blk w' ge 41 #[.string (bs r.r.name), .int .i64 r.r.ent, .int .i64 r.r.ext, .slice r.A1 r.r.path.length r.c1, .slice r.A2 r.r.pts.length r.c2, .slice r.A3 r.r.secs.length r.c3, .int .i64 r.r.app, .int .i64 r.r.len, .slice r.A4 r.r.over.length r.c4, .slice r.A5 r.r.opts.length r.c5, .slice r.A6 r.r.osecs.length r.c6, .slice r.A7 r.r.flk.length r.c7, .slice r.A8 r.r.grd.length r.c8, .slice r.A9 r.r.gap.length r.c9])) W) := Lib.hid fun W h => ⟨h.2.cell 0, h.2.cell 1, h.2.cell 2, h.2.cell 6, h.2.cell 7, h⟩
          refine wp_region_held_drew (S := (fun w' => w'.cell? ⟨ge, 0, none⟩ = some (.string (bs r.r.name)) ∧ w'.cell? ⟨ge, 1, none⟩ = some (.int .i64 r.r.ent) ∧ w'.cell? ⟨ge, 2, none⟩ = some (.int .i64 r.r.ext) ∧ w'.cell? ⟨ge, 6, none⟩ = some (.int .i64 r.r.app) ∧ w'.cell? ⟨ge, 7, none⟩ = some (.int .i64 r.r.len) ∧ (LnT w w' v u5 lns ∧ Blk w' ge 41 #[.string (bs r.r.name), .int .i64 r.r.ent, .int .i64 r.r.ext, .slice r.A1 r.r.path.length r.c1, .slice r.A2 r.r.pts.length r.c2, .slice r.A3 r.r.secs.length r.c3, .int .i64 r.r.app, .int .i64 r.r.len, .slice r.A4 r.r.over.length r.c4, .slice r.A5 r.r.opts.length r.c5, .slice r.A6 r.r.osecs.length r.c6, .slice r.A7 r.r.flk.length r.c7, .slice r.A8 r.r.grd.length r.c8, .slice r.A9 r.r.gap.length r.c9]))) (by kernel_rfl) (HSS.out _ ⟨hla.drew, hbk.drew⟩) (fun hHeld => ?_)
          refine tkY (i := 0) (oi := .mk (some 57) (.move (.tmp 5)) 43 "ref.go:79" #[] none) (v := ?_) rfl (by kernel_rfl) (fun _ _ _ h => h) (Or.inl ⟨by rfl, ?_⟩) (by assumption) ?_
          rotate_left
          · intro W hSw; (try dsimp only at hSw); go_simp; first | done | with_reducible rfl
          try simp only [Act.put, lsa, lsz, lss]
          refine tkY (i := 1) (oi := .mk (some 58) (.fieldAddr 41 (.tmp 8) 0) 0 "ref.go:79" #[] none) (v := ?_) rfl (by kernel_rfl) (fun _ _ _ h => h) (Or.inl ⟨by rfl, ?_⟩) (by assumption) ?_
          rotate_left
          · intro W hSw; (try dsimp only at hSw); go_simp; first | done | with_reducible rfl
          try simp only [Act.put, lsa, lsz, lss]
          refine tkY (i := 2) (oi := .mk (some 59) (.load 9 (.tmp 58)) 9 "ref.go:79" #[.mk 1 .data] none) (v := ?_) rfl (by kernel_rfl) (fun _ _ _ h => h) (Or.inl ⟨by rfl, ?_⟩) (by assumption) ?_
          rotate_left
          · intro W hSw; (try dsimp only at hSw); go_simp; first | done | with_reducible rfl
          try simp only [Act.put, lsa, lsz, lss]
          refine tkY (i := 3) (oi := .mk (some 60) (.fieldAddr 41 (.tmp 8) 1) 0 "ref.go:79" #[] none) (v := ?_) rfl (by kernel_rfl) (fun _ _ _ h => h) (Or.inl ⟨by rfl, ?_⟩) (by assumption) ?_
          rotate_left
          · intro W hSw; (try dsimp only at hSw); go_simp; first | done | with_reducible rfl
          try simp only [Act.put, lsa, lsz, lss]
          refine tkY (i := 4) (oi := .mk (some 61) (.load 3 (.tmp 60)) 3 "ref.go:79" #[.mk 3 .data] none) (v := ?_) rfl (by kernel_rfl) (fun _ _ _ h => h) (Or.inl ⟨by rfl, ?_⟩) (by assumption) ?_
          rotate_left
          · intro W hSw; (try dsimp only at hSw); go_simp; first | done | with_reducible rfl
          try simp only [Act.put, lsa, lsz, lss]
          refine tkY (i := 6) (oi := .mk (some 63) (.fieldAddr 41 (.tmp 8) 2) 0 "ref.go:79" #[] none) (v := ?_) rfl (by kernel_rfl) (fun _ _ _ h => h) (Or.inl ⟨by rfl, ?_⟩) (by assumption) ?_
          rotate_left
          · intro W hSw; (try dsimp only at hSw); go_simp; first | done | with_reducible rfl
          try simp only [Act.put, lsa, lsz, lss]
          refine tkY (i := 7) (oi := .mk (some 64) (.load 3 (.tmp 63)) 3 "ref.go:79" #[.mk 6 .data] none) (v := ?_) rfl (by kernel_rfl) (fun _ _ _ h => h) (Or.inl ⟨by rfl, ?_⟩) (by assumption) ?_
          rotate_left
          · intro W hSw; (try dsimp only at hSw); go_simp; first | done | with_reducible rfl
          try simp only [Act.put, lsa, lsz, lss]
          refine tkY (i := 9) (oi := .mk (some 66) (.fieldAddr 41 (.tmp 8) 6) 0 "ref.go:79" #[] none) (v := ?_) rfl (by kernel_rfl) (fun _ _ _ h => h) (Or.inl ⟨by rfl, ?_⟩) (by assumption) ?_
          rotate_left
          · intro W hSw; (try dsimp only at hSw); go_simp; first | done | with_reducible rfl
          try simp only [Act.put, lsa, lsz, lss]
          refine tkY (i := 10) (oi := .mk (some 67) (.load 3 (.tmp 66)) 3 "ref.go:79" #[.mk 9 .data] none) (v := ?_) rfl (by kernel_rfl) (fun _ _ _ h => h) (Or.inl ⟨by rfl, ?_⟩) (by assumption) ?_
          rotate_left
          · intro W hSw; (try dsimp only at hSw); go_simp; first | done | with_reducible rfl
          try simp only [Act.put, lsa, lsz, lss]
          refine tkY (i := 12) (oi := .mk (some 69) (.fieldAddr 41 (.tmp 8) 7) 0 "ref.go:79" #[] none) (v := ?_) rfl (by kernel_rfl) (fun _ _ _ h => h) (Or.inl ⟨by rfl, ?_⟩) (by assumption) ?_
          rotate_left
          · intro W hSw; (try dsimp only at hSw); go_simp; first | done | with_reducible rfl
          try simp only [Act.put, lsa, lsz, lss]
          refine tkY (i := 13) (oi := .mk (some 70) (.load 3 (.tmp 69)) 3 "ref.go:79" #[.mk 12 .data] none) (v := ?_) rfl (by kernel_rfl) (fun _ _ _ h => h) (Or.inl ⟨by rfl, ?_⟩) (by assumption) ?_
          rotate_left
          · intro W hSw; (try dsimp only at hSw); go_simp; first | done | with_reducible rfl
          try simp only [Act.put, lsa, lsz, lss]
          refine wpAnyH_ready (rs := [5]) (by kernel_rfl) (by simp) (AllReadyH.cons (o := .mk (some 62) (.call (.mk (.value (.func 24)) #[.tmp 61] #[3])) 9 "ref.go:79" #[.mk 4 .data] none) rfl (fun K hK => ?_) AllReadyH.nil)
          obtain ⟨-, -, -, -, -, hh, hk0⟩ := id hHeld
          go_simp
          go_at_call 24
          refine (HF.out _ _ HI1.out).mono ?_
          rintro e wq ⟨rfl, hq⟩
          have hq0 := HSS.out _ ⟨hh.now hq, hk0.now hq⟩
          clear hh hk0
          go_wp2_with fail
          refine hK.out _ _ ?_ (fun hHeld => ?_)
          · exact hq0
          clear hK K
          try simp only [Act.put, lsa, lsz, lss]
          clear hq0 hq
          refine wpAnyH_ready (rs := [8]) (by kernel_rfl) (by simp) (AllReadyH.cons (o := .mk (some 65) (.call (.mk (.value (.func 24)) #[.tmp 64] #[3])) 9 "ref.go:79" #[.mk 7 .data, .mk 5 .chain] none) rfl (fun K hK => ?_) AllReadyH.nil)
          obtain ⟨-, -, -, -, -, hh, hk0⟩ := id hHeld
          go_simp
          go_at_call 24
          refine (HF.out _ _ HI2.out).mono ?_
          rintro e wq ⟨rfl, hq⟩
          have hq0 := HSS.out _ ⟨hh.now hq, hk0.now hq⟩
          clear hh hk0
          go_wp2_with fail
          refine hK.out _ _ ?_ (fun hHeld => ?_)
          · exact hq0
          clear hK K
          try simp only [Act.put, lsa, lsz, lss]
          clear hq0 hq
          refine wpAnyH_ready (rs := [11]) (by kernel_rfl) (by simp) (AllReadyH.cons (o := .mk (some 68) (.call (.mk (.value (.func 24)) #[.tmp 67] #[3])) 9 "ref.go:79" #[.mk 10 .data, .mk 8 .chain] none) rfl (fun K hK => ?_) AllReadyH.nil)
          obtain ⟨-, -, -, -, -, hh, hk0⟩ := id hHeld
          go_simp
          go_at_call 24
          refine (HF.out _ _ HI3.out).mono ?_
          rintro e wq ⟨rfl, hq⟩
          have hq0 := HSS.out _ ⟨hh.now hq, hk0.now hq⟩
          clear hh hk0
          go_wp2_with fail
          refine hK.out _ _ ?_ (fun hHeld => ?_)
          · exact hq0
          clear hK K
          try simp only [Act.put, lsa, lsz, lss]
          clear hq0 hq
          refine wpAnyH_ready (rs := [14]) (by kernel_rfl) (by simp) (AllReadyH.cons (o := .mk (some 71) (.call (.mk (.value (.func 24)) #[.tmp 70] #[3])) 9 "ref.go:79" #[.mk 13 .data, .mk 11 .chain] none) rfl (fun K hK => ?_) AllReadyH.nil)
          obtain ⟨-, -, -, -, -, hh, hk0⟩ := id hHeld
          go_simp
          go_at_call 24
          refine (HF.out _ _ HI4.out).mono ?_
          rintro e wq ⟨rfl, hq⟩
          have hq0 := HSS.out _ ⟨hh.now hq, hk0.now hq⟩
          clear hh hk0
          go_wp2_with fail
          refine hK.out _ _ ?_ (fun hHeld => ?_)
          · exact hq0
          clear hK K
          try simp only [Act.put, lsa, lsz, lss]
          obtain ⟨-, -, -, -, -, hh, hk0⟩ := id hHeld
          clear hq0 hq hHeld
          refine wpAnyH_ready (rs := [15]) (by kernel_rfl) (by simp) (AllReadyH.cons (o := .mk (some 72) (.buildSlice 46 6 #[(0, .const (.string (.mk #[114, 111, 117, 116, 101]))), (1, .tmp 59), (2, .tmp 62), (3, .tmp 65), (4, .tmp 68), (5, .tmp 71)]) 46 "ref.go:79" #[.mk 2 .data, .mk 5 .data, .mk 8 .data, .mk 11 .data, .mk 14 .data] none) rfl (fun K hK => ?_) AllReadyH.nil)
          go_simp
          refine hK.out _ _ ?_ (fun hHeld => ?_)
          · exact HSS.out _ ⟨hh.alloc _, hk0.alloc _⟩
          clear hK K
          try simp only [Act.put, lsa, lsz, lss]
          refine wpAnyH_ready (rs := [16]) (by kernel_rfl) (by simp) (AllReadyH.cons (o := .mk (some 73) (.buildSlice 43 1 #[(0, .tmp 72)]) 43 "ref.go:79" #[.mk 15 .data] none) rfl (fun K hK => ?_) AllReadyH.nil)
          go_simp
          refine hK.out _ _ ?_ (fun hHeld => ?_)
          · exact HSS.out _ ⟨(hh.alloc _).alloc _, (hk0.alloc _).alloc _⟩
          clear hK K
          try simp only [Act.put, lsa, lsz, lss]
          have hlC : LnT w ((wq.alloc (.cells #[.string { data := #[114, 111, 117, 116, 101] }, .string (bs r.r.name), .string (bs (Lib.itoa r.r.ent)), .string (bs (Lib.itoa r.r.ext)), .string (bs (Lib.itoa r.r.app)), .string (bs (Lib.itoa r.r.len))] 9)).alloc (.cells #[.slice (some ⟨wq.heap.size, 0, none⟩) 6 6] 46)) v u5 lns := (hh.alloc _).alloc _
          have hkC : Blk ((wq.alloc (.cells #[.string { data := #[114, 111, 117, 116, 101] }, .string (bs r.r.name), .string (bs (Lib.itoa r.r.ent)), .string (bs (Lib.itoa r.r.ext)), .string (bs (Lib.itoa r.r.app)), .string (bs (Lib.itoa r.r.len))] 9)).alloc (.cells #[.slice (some ⟨wq.heap.size, 0, none⟩) 6 6] 46)) wq.heap.size 9 ((rhead r.r).map fun x => Value.string (bs x)).toArray := (Blk.new wq _ _ _ rfl).alloc _
          have hkD : Blk ((wq.alloc (.cells #[.string { data := #[114, 111, 117, 116, 101] }, .string (bs r.r.name), .string (bs (Lib.itoa r.r.ent)), .string (bs (Lib.itoa r.r.ext)), .string (bs (Lib.itoa r.r.app)), .string (bs (Lib.itoa r.r.len))] 9)).alloc (.cells #[.slice (some ⟨wq.heap.size, 0, none⟩) 6 6] 46)) (wq.heap.size + 1) 46 [.slice (some ⟨wq.heap.size, 0, none⟩) 6 6].toArray := Blk.new _ _ _ _ (by simp)
          have hrdC := line_rd (T' := 46) hkC (fun x hx => by (simp only [rhead, List.mem_cons, List.not_mem_nil, or_false] at hx; rcases hx with rfl | rfl | rfl | rfl | rfl | rfl; exact Nat.le_trans (show routeW.length ≤ 6 by decide) (by unfold maxLen; omega); exact hnm; (unfold maxLen; omega); (unfold maxLen; omega); (unfold maxLen; omega); (unfold maxLen; omega))) (by decide) (by unfold maxLen; simp [rhead])
          refine wpAnyH_ready (rs := [17]) (by kernel_rfl) (by simp) (AllReadyH.cons (o := .mk (some 74) (.call (.mk (.builtin .append) #[.tmp 57, .tmp 73] #[43, 43])) 43 "ref.go:79" #[.mk 0 .data, .mk 16 .data, .mk 14 .chain] none) rfl (fun K hK => ?_) AllReadyH.nil)
          refine step_append_r rfl _ _ 43 rfl w.heap.size 46 j0 _ 24 Tryz.underlying43 hj0 hy0 hy1 hy2 rfl (by decide) u5 lns _ rfl hlC.2 [_] (rhead r.r) hrdC (fun u hu => by (simp at hu; subst hu; rfl)) _ rfl (blk_cells hkD) (by omega) (by omega) hlC.bel.size ?_
          intro v5 w5 hown5 hold5 hf5
          have hn5 : LnT w w5 v u5 lns := ⟨hlC.1.frm HR.out hf5 (by decide), hold5.raise hf5.size (Nat.le_refl _)⟩
          have hl5 := hlC.push HR.out hown5 hf5
          have hk5 := hf5.blk ((hk0.alloc _).alloc _) (by decide)
          refine hK.out _ _ ?_ (fun hHeld => ?_)
          · exact HSS.out _ ⟨hn5, hk5⟩
          clear hK K
          try simp only [Act.put, lsa, lsz, lss]
          refine tkY (i := 18) (oi := .mk (some 5) (.assign (.tmp 74)) 43 "ref.go:79" #[.mk 17 .data, .mk 17 .chain, .mk 0 .phase, .mk 1 .phase, .mk 2 .phase, .mk 3 .phase, .mk 4 .phase, .mk 5 .phase, .mk 6 .phase, .mk 7 .phase, .mk 8 .phase, .mk 9 .phase, .mk 10 .phase, .mk 11 .phase, .mk 12 .phase, .mk 13 .phase, .mk 14 .phase, .mk 15 .phase, .mk 16 .phase, .mk 17 .phase] none) (v := ?_) rfl (by kernel_rfl) (fun _ _ _ h => h) (Or.inl ⟨by rfl, ?_⟩) (by assumption) ?_
          rotate_left
          · intro W hSw; (try dsimp only at hSw); go_simp; first | done | with_reducible rfl
          try simp only [Act.put, lsa, lsz, lss]
          refine wpAnyH_done (by kernel_rfl) ?_ _
          clear hn5 hlC hkC hkD hrdC hh hk0 hown5 hold5 hf5 HSS hHeld HI1 HI2 HI3 HI4 i1 i2 i3 i4 hla hbk hl
          have y0 := hk5.cell 0
          have y1 := hk5.cell 1
          have y2 := hk5.cell 2
          have y3 := hk5.cell 3
          have y4 := hk5.cell 4
          have y5 := hk5.cell 5
          have y6 := hk5.cell 6
          have y7 := hk5.cell 7
          have y8 := hk5.cell 8
          have y9 := hk5.cell 9
          have y10 := hk5.cell 10
          have y11 := hk5.cell 11
          have y12 := hk5.cell 12
          have y13 := hk5.cell 13
          simp only [List.getElem?_toArray, List.getElem?_cons_zero, List.getElem?_cons_succ] at y0 y1 y2 y3 y4 y5 y6 y7 y8 y9 y10 y11 y12 y13
          have HLI := Lib.hid (rlists_any r v5 (lns ++ [rhead r.r]) w.heap.size w5 (by rw [List.length_append, List.length_singleton]; omega) hl5.bel.size HSH.out hl5.2 (HRV.out.keep fun p hp => hl5.bel.cell hp))
          go_wp2_with fail
          refine HLI.out.mono ?_
          rintro e w6 ⟨s6, rfl, ho6, hf6⟩
          have hl6 : LnT w w6 v s6 ((lns ++ [rhead r.r]) ++ listsR r.r) := ⟨hl5.1.frm HR.out hf6 (by decide), ho6⟩
          rw [← HT.out] at hl6
          clear HLI ho6 hf6 hl5 hk5 HT y0 y1 y2 y3 y4 y5 y6 y7 y8 y9 y10 y11 y12 y13
          go_wp2_with fail
          go_roundw
          case rel => exact ⟨k + 1, by omega, by go_num, hl6⟩
          case measure => simp [intOf]; omega
        · have HE := Lib.hid (rtsK_all hlt)
          rw [HE.out] at hl
          have hB := hl.bel
          have hlen : (linesT v.t).length ≤ 2000 := by have h1 := rtsK_len v.t k hk; rw [HE.out] at h1; omega
          have hcn : cnt (linesT v.t) ≤ 100000000 := Nat.le_trans (cnt_le _ 40002 (linesT_short HSM.out)) (by omega)
          obtain ⟨tx, hj⟩ : ∃ tx, joinF (linesT v.t) = tx := ⟨_, rfl⟩
          rw [hj] at HP
          obtain ⟨A9, c9, rfl, ⟨hm9, hc9⟩, hrd9⟩ := hl.2.reads2
          have HJN := Lib.hid (rjoinLC (t := tx.1) (x := tx.2) hj A9 c9 wr hrd9 (by omega) hcn)
          clear hl hrd9 hj hcn HE
          generalize (linesT v.t).length = nl at *
          go_wp2_with fail
          refine HJN.out.mono ?_
          rintro e w9 ⟨rfl, rfl⟩
          clear HJN
          go_wp2_with fail
          go_ret2
          exact ⟨by rw [HP.out]; rfl, hB⟩
end Go.Proofs.YtlblfblkallnhaaGreatDoor
