/- The reference's words of lists, and the lines of a route's lists. -/
import Derived.Test.YtlblfblkallnhaaGreatDoorTbWalksA
import Derived.Test.YtlblfblkallnhaaGreatDoorTbChkE
import Derived.Test.YtlblfblkallnhaaGreatDoorTbLst
import Derived.Test.YtlblfblkallnhaaGreatDoorTbParB
namespace Go.Proofs.YtlblfblkallnhaaGreatDoor
set_option linter.unusedVariables false
set_option linter.unusedSimpArgs false
open Go.RowKit
attribute [local go_sem] bs_size bs_get bs_append bs_extract bs_toList
attribute [-go_sem] run_equalIn_agg
theorem rfmtC (ns : List Int) (g : Nat) (T : TypeId) (n : Nat) (hn : n = ns.length) (hi : ∀ n ∈ ns, I64n n) (hl : ns.length ≤ 1000) (w : World) (h : Blk w g T (ns.map (Value.int .i64)).toArray) :
    Calls Tryz.prog 84 #[.slice (some ⟨g, 0, none⟩) n n] w fun e w' => e = .returned (.string (bs (fmtF ns))) ∧ w = w' := by
  subst hn
  exact rfmtList_any ns (some ⟨g, 0, none⟩) ns.length w (rds_ints h hi) (by omega)
set_option maxRecDepth 100000 in
set_option maxHeartbeats 8000000 in
theorem rsteps_any (l : List Stp) (A : Option Addr) (cap : Nat) (w : World) (hr : RdS cStp w (Lt w) A l) (hl : l.length ≤ 40000) :
    Calls Tryz.prog 57 #[.slice A l.length cap] w (RowP w (stpsW l)) := by
  obtain ⟨i0, hi0, hz0, hz1, hz2⟩ := info_parts infoStrT
  go_enter Tryz.func57, Tryz.ntmps57
  go_wp2_with fail
  go_loopw [3, 4] (fun s n wr => ∃ k : Nat, k ≤ l.length ∧ n = .int .i64 k ∧ OwnR cS wr w.heap.size 9 s (stpsW (l.take k)) 0 ∧ Below w.heap.size w wr) (fun _ n _ => l.length - (intOf n).toNat)
  case atStart => exact ⟨0, Nat.zero_le _, rfl, OwnR.nil _ _ _ _ (Nat.zero_le _), Below.refl _ _⟩
  case round =>
    obtain ⟨k, hk, rfl, hown, hb⟩ := hrel
    have hsz := hb.size
    by_cases hlt : k < l.length
    · have hki : (k : Int) < (l.length : Int) := by omega
      obtain ⟨b, off, hA, lb, ⟨o0, o1, o2⟩, y0, y1, y2⟩ := hr.elT hlt
      have HT : Hid (stpsW (l.take (k + 1)) = stpsW (l.take k) ++ [fmtF (stpN l[k])]) := Lib.hid (map_take _ hlt)
      have hkl : (stpsW (l.take k)).length ≤ 50000 := by simp [stpsW]; omega
      have hi3 : ∀ n ∈ stpN l[k], I64n n := by intro n hn; simp only [stpN, List.mem_cons, List.not_mem_nil, or_false] at hn; rcases hn with rfl | rfl | rfl <;> assumption
      have hfl := fmt_len hi3 (by simp [stpN])
      have HC : Hid (∀ (W : World) (g : Nat), Blk W g 3 #[.int .i64 l[k].el, .int .i64 l[k].inn, .int .i64 l[k].out] → Calls Tryz.prog 84 #[.slice (some ⟨g, 0, none⟩) 3 3] W fun e w' => e = .returned (.string (bs (fmtF (stpN l[k])))) ∧ W = w') := Lib.hid fun W g h => rfmtC (stpN l[k]) g 3 3 rfl hi3 (by simp [stpN]) W h
      rw [hA]
      clear hA hi3 o0 o1 o2
      generalize fmtF (stpN l[k]) = fx at *
      generalize l[k] = q at *
      generalize stpsW (l.take k) = ws at *
      have HSS : Hid (∀ W, (OwnR cS W w.heap.size 9 u3 ws 0 ∧ Below w.heap.size w W) → (fun w' => w'.cell? ⟨b, off + k * 3, none⟩ = some (.int .i64 q.el) ∧ w'.cell? ⟨b, off + k * 3 + 1, none⟩ = some (.int .i64 q.inn) ∧ w'.cell? ⟨b, off + k * 3 + 2, none⟩ = some (.int .i64 q.out) ∧ (OwnR cS w' w.heap.size 9 u3 ws 0 ∧ Below w.heap.size w w')) W) := Lib.hid fun W h => ⟨(h.2.cell (p := ⟨b, off + k * 3, none⟩) lb).trans y0, (h.2.cell (p := ⟨b, off + k * 3 + 1, none⟩) lb).trans y1, (h.2.cell (p := ⟨b, off + k * 3 + 2, none⟩) lb).trans y2, h⟩
      clear y0 y1 y2
      go_wp2_with fail
      refine wp_region_held_drew (S := (fun w' => w'.cell? ⟨b, off + k * 3, none⟩ = some (.int .i64 q.el) ∧ w'.cell? ⟨b, off + k * 3 + 1, none⟩ = some (.int .i64 q.inn) ∧ w'.cell? ⟨b, off + k * 3 + 2, none⟩ = some (.int .i64 q.out) ∧ (OwnR cS w' w.heap.size 9 u3 ws 0 ∧ Below w.heap.size w w'))) (by kernel_rfl) (HSS.out _ ⟨hown.drew, hb.drew⟩) (fun hHeld => ?_)
      refine tkY (i := 0) (oi := .mk (some 11) (.move (.tmp 3)) 46 "ref.go:14" #[] none) (v := ?_) rfl (by kernel_rfl) (fun _ _ _ h => h) (Or.inl ⟨by rfl, ?_⟩) (by assumption) ?_
      rotate_left
      · intro W hSw; (try dsimp only at hSw); go_simp; first | done | with_reducible rfl
      try simp only [Act.put, lsa, lsz, lss]
      refine tkY (i := 1) (oi := .mk (some 12) (.move (.tmp 0)) 37 "ref.go:14" #[] none) (v := ?_) rfl (by kernel_rfl) (fun _ _ _ h => h) (Or.inl ⟨by rfl, ?_⟩) (by assumption) ?_
      rotate_left
      · intro W hSw; (try dsimp only at hSw); go_simp; first | done | with_reducible rfl
      try simp only [Act.put, lsa, lsz, lss]
      refine tkY (i := 2) (oi := .mk (some 13) (.move (.tmp 4)) 3 "ref.go:14" #[] none) (v := ?_) rfl (by kernel_rfl) (fun _ _ _ h => h) (Or.inl ⟨by rfl, ?_⟩) (by assumption) ?_
      rotate_left
      · intro W hSw; (try dsimp only at hSw); go_simp; first | done | with_reducible rfl
      try simp only [Act.put, lsa, lsz, lss]
      refine tkY (i := 3) (oi := .mk (some 14) (.indexAddr 37 (.tmp 12) (.tmp 13)) 0 "ref.go:14" #[.mk 1 .data, .mk 2 .data] none) (v := ?_) rfl (by kernel_rfl) (fun _ _ _ h => h) (Or.inl ⟨by rfl, ?_⟩) (by assumption) ?_
      rotate_left
      · intro W hSw; (try dsimp only at hSw); go_simp; first | done | with_reducible rfl
      try simp only [Act.put, lsa, lsz, lss]
      refine tkY (i := 4) (oi := .mk (some 15) (.fieldAddr 50 (.tmp 14) 0) 0 "ref.go:14" #[.mk 3 .data] none) (v := ?_) rfl (by kernel_rfl) (fun _ _ _ h => h) (Or.inl ⟨by rfl, ?_⟩) (by assumption) ?_
      rotate_left
      · intro W hSw; (try dsimp only at hSw); go_simp; first | done | with_reducible rfl
      try simp only [Act.put, lsa, lsz, lss]
      refine tkY (i := 5) (oi := .mk (some 16) (.load 3 (.tmp 15)) 3 "ref.go:14" #[.mk 4 .data] none) (v := ?_) rfl (by kernel_rfl) (fun _ _ _ h => h) (Or.inl ⟨by rfl, ?_⟩) (by assumption) ?_
      rotate_left
      · intro W hSw; (try dsimp only at hSw); go_simp; first | done | with_reducible rfl
      try simp only [Act.put, lsa, lsz, lss]
      refine tkY (i := 6) (oi := .mk (some 17) (.move (.tmp 0)) 37 "ref.go:14" #[] none) (v := ?_) rfl (by kernel_rfl) (fun _ _ _ h => h) (Or.inl ⟨by rfl, ?_⟩) (by assumption) ?_
      rotate_left
      · intro W hSw; (try dsimp only at hSw); go_simp; first | done | with_reducible rfl
      try simp only [Act.put, lsa, lsz, lss]
      refine tkY (i := 7) (oi := .mk (some 18) (.move (.tmp 4)) 3 "ref.go:14" #[] none) (v := ?_) rfl (by kernel_rfl) (fun _ _ _ h => h) (Or.inl ⟨by rfl, ?_⟩) (by assumption) ?_
      rotate_left
      · intro W hSw; (try dsimp only at hSw); go_simp; first | done | with_reducible rfl
      try simp only [Act.put, lsa, lsz, lss]
      refine tkY (i := 8) (oi := .mk (some 19) (.indexAddr 37 (.tmp 17) (.tmp 18)) 0 "ref.go:14" #[.mk 6 .data, .mk 7 .data] none) (v := ?_) rfl (by kernel_rfl) (fun _ _ _ h => h) (Or.inl ⟨by rfl, ?_⟩) (by assumption) ?_
      rotate_left
      · intro W hSw; (try dsimp only at hSw); go_simp; first | done | with_reducible rfl
      try simp only [Act.put, lsa, lsz, lss]
      refine tkY (i := 9) (oi := .mk (some 20) (.fieldAddr 50 (.tmp 19) 1) 0 "ref.go:14" #[.mk 8 .data] none) (v := ?_) rfl (by kernel_rfl) (fun _ _ _ h => h) (Or.inl ⟨by rfl, ?_⟩) (by assumption) ?_
      rotate_left
      · intro W hSw; (try dsimp only at hSw); go_simp; first | done | with_reducible rfl
      try simp only [Act.put, lsa, lsz, lss]
      refine tkY (i := 10) (oi := .mk (some 21) (.load 3 (.tmp 20)) 3 "ref.go:14" #[.mk 9 .data] none) (v := ?_) rfl (by kernel_rfl) (fun _ _ _ h => h) (Or.inl ⟨by rfl, ?_⟩) (by assumption) ?_
      rotate_left
      · intro W hSw; (try dsimp only at hSw); go_simp; first | done | with_reducible rfl
      try simp only [Act.put, lsa, lsz, lss]
      refine tkY (i := 11) (oi := .mk (some 22) (.move (.tmp 0)) 37 "ref.go:14" #[] none) (v := ?_) rfl (by kernel_rfl) (fun _ _ _ h => h) (Or.inl ⟨by rfl, ?_⟩) (by assumption) ?_
      rotate_left
      · intro W hSw; (try dsimp only at hSw); go_simp; first | done | with_reducible rfl
      try simp only [Act.put, lsa, lsz, lss]
      refine tkY (i := 12) (oi := .mk (some 23) (.move (.tmp 4)) 3 "ref.go:14" #[] none) (v := ?_) rfl (by kernel_rfl) (fun _ _ _ h => h) (Or.inl ⟨by rfl, ?_⟩) (by assumption) ?_
      rotate_left
      · intro W hSw; (try dsimp only at hSw); go_simp; first | done | with_reducible rfl
      try simp only [Act.put, lsa, lsz, lss]
      refine tkY (i := 13) (oi := .mk (some 24) (.indexAddr 37 (.tmp 22) (.tmp 23)) 0 "ref.go:14" #[.mk 11 .data, .mk 12 .data] none) (v := ?_) rfl (by kernel_rfl) (fun _ _ _ h => h) (Or.inl ⟨by rfl, ?_⟩) (by assumption) ?_
      rotate_left
      · intro W hSw; (try dsimp only at hSw); go_simp; first | done | with_reducible rfl
      try simp only [Act.put, lsa, lsz, lss]
      refine tkY (i := 14) (oi := .mk (some 25) (.fieldAddr 50 (.tmp 24) 2) 0 "ref.go:14" #[.mk 13 .data] none) (v := ?_) rfl (by kernel_rfl) (fun _ _ _ h => h) (Or.inl ⟨by rfl, ?_⟩) (by assumption) ?_
      rotate_left
      · intro W hSw; (try dsimp only at hSw); go_simp; first | done | with_reducible rfl
      try simp only [Act.put, lsa, lsz, lss]
      refine tkY (i := 15) (oi := .mk (some 26) (.load 3 (.tmp 25)) 3 "ref.go:14" #[.mk 14 .data] none) (v := ?_) rfl (by kernel_rfl) (fun _ _ _ h => h) (Or.inl ⟨by rfl, ?_⟩) (by assumption) ?_
      rotate_left
      · intro W hSw; (try dsimp only at hSw); go_simp; first | done | with_reducible rfl
      try simp only [Act.put, lsa, lsz, lss]
      refine wpAnyH_ready (rs := [16]) (by kernel_rfl) (by simp) (AllReadyH.cons (o := .mk (some 27) (.buildSlice 23 3 #[(0, .tmp 16), (1, .tmp 21), (2, .tmp 26)]) 23 "ref.go:14" #[.mk 5 .data, .mk 10 .data, .mk 15 .data] none) rfl (fun K hK => ?_) AllReadyH.nil)
      go_simp
      refine hK.out _ _ ?_ (fun hHeld => ?_)
      · exact HSS.out _ ⟨(hown.alloc _).drew, (hb.alloc hsz _).drew⟩
      clear hK K
      try simp only [Act.put, lsa, lsz, lss]
      refine wpAnyH_ready (rs := [17]) (by kernel_rfl) (by simp) (AllReadyH.cons (o := .mk (some 28) (.call (.mk (.value (.func 84)) #[.tmp 27] #[23])) 9 "ref.go:14" #[.mk 16 .data] none) rfl (fun K hK => ?_) AllReadyH.nil)
      go_simp
      go_at_call 84
      refine (HC.out _ _ (by exact (Blk.new _ _ _ _ rfl).drew)).mono ?_
      rintro e wq ⟨rfl, rfl⟩
      go_wp2_with fail
      refine hK.out _ _ ?_ (fun hHeld => ?_)
      · exact HSS.out _ ⟨(hown.alloc _).drew, (hb.alloc hsz _).drew⟩
      clear hK K
      try simp only [Act.put, lsa, lsz, lss]
      refine wpAnyH_ready (rs := [18]) (by kernel_rfl) (by simp) (AllReadyH.cons (o := .mk (some 29) (.buildSlice 46 1 #[(0, .tmp 28)]) 46 "ref.go:14" #[.mk 17 .data] none) rfl (fun K hK => ?_) AllReadyH.nil)
      go_simp
      refine hK.out _ _ ?_ (fun hHeld => ?_)
      · exact HSS.out _ ⟨((hown.alloc _).alloc _).drew, ((hb.alloc hsz _).alloc (by simp; omega) _).drew⟩
      clear hK K
      try simp only [Act.put, lsa, lsz, lss]
      have hoC := ((hown.alloc (.cells #[.int .i64 q.el, .int .i64 q.inn, .int .i64 q.out] 3)).alloc (.cells #[.string (bs fx)] 9)).drew
      have hbC := ((hb.alloc hsz (.cells #[.int .i64 q.el, .int .i64 q.inn, .int .i64 q.out] 3)).alloc (by simp; omega) (.cells #[.string (bs fx)] 9)).drew
      have hkC : Blk ((wr.alloc (.cells #[.int .i64 q.el, .int .i64 q.inn, .int .i64 q.out] 3)).alloc (.cells #[.string (bs fx)] 9)).drew (wr.heap.size + 1) 9 [Value.string (bs fx)].toArray := (Blk.new _ _ _ _ (by simp)).drew
      refine wpAnyH_ready (rs := [19]) (by kernel_rfl) (by simp) (AllReadyH.cons (o := .mk (some 30) (.call (.mk (.builtin .append) #[.tmp 11, .tmp 29] #[46, 46])) 46 "ref.go:14" #[.mk 0 .data, .mk 18 .data, .mk 17 .chain] none) rfl (fun K hK => ?_) AllReadyH.nil)
      refine step_append_r (c := cS) rfl _ _ 46 rfl w.heap.size 9 i0 _ 16 Tryz.underlying46 hi0 hz0 hz1 hz2 rfl (by decide) u3 ws 0 rfl hoC [_] fx ⟨rfl, by unfold maxLen; omega⟩ (fun u hu => by (simp at hu; subst hu; rfl)) _ rfl (blk_cells hkC) (by omega) (by omega) hbC.size ?_
      intro v5 w5 hown5 hold5 hf5
      have hb5 := hf5.keeps (Nat.le_refl _) hbC.size hbC
      refine hK.out _ _ ?_ (fun hHeld => ?_)
      · exact HSS.out _ ⟨hold5, hb5⟩
      clear hK K
      try simp only [Act.put, lsa, lsz, lss]
      refine tkY (i := 20) (oi := .mk (some 3) (.assign (.tmp 30)) 46 "ref.go:14" #[.mk 19 .data, .mk 19 .chain, .mk 0 .phase, .mk 1 .phase, .mk 2 .phase, .mk 3 .phase, .mk 4 .phase, .mk 5 .phase, .mk 6 .phase, .mk 7 .phase, .mk 8 .phase, .mk 9 .phase, .mk 10 .phase, .mk 11 .phase, .mk 12 .phase, .mk 13 .phase, .mk 14 .phase, .mk 15 .phase, .mk 16 .phase, .mk 17 .phase, .mk 18 .phase, .mk 19 .phase] none) (v := ?_) rfl (by kernel_rfl) (fun _ _ _ h => h) (Or.inl ⟨by rfl, ?_⟩) (by assumption) ?_
      rotate_left
      · intro W hSw; (try dsimp only at hSw); go_simp; first | done | with_reducible rfl
      try simp only [Act.put, lsa, lsz, lss]
      refine wpAnyH_done (by kernel_rfl) ?_ _
      go_wp2_with fail
      go_roundw
      case rel => exact ⟨k + 1, by omega, by go_num, by rw [HT.out]; exact hown5.low cS_flat, hb5⟩
      case measure => simp [intOf]; omega
    · have HE : Hid (stpsW (l.take k) = stpsW l) := Lib.hid (by rw [List.take_of_length_le (by omega)])
      rw [HE.out] at hown
      obtain ⟨A', c', rfl⟩ := hown.form
      have HO := Lib.hid hown
      clear hown HE
      go_wp2_with fail
      go_ret
      exact ⟨A', c', rfl, HO.out, hb⟩
set_option maxRecDepth 100000 in
set_option maxHeartbeats 8000000 in
theorem rsettings_any (l : List Stg) (A : Option Addr) (cap : Nat) (w : World) (hr : RdS cStg w (Lt w) A l) (hl : l.length ≤ 40000) :
    Calls Tryz.prog 58 #[.slice A l.length cap] w (RowP w (stgsW l)) := by
  obtain ⟨i0, hi0, hz0, hz1, hz2⟩ := info_parts infoStrT
  go_enter Tryz.func58, Tryz.ntmps58
  go_wp2_with fail
  go_loopw [3, 4] (fun s n wr => ∃ k : Nat, k ≤ l.length ∧ n = .int .i64 k ∧ OwnR cS wr w.heap.size 9 s (stgsW (l.take k)) 0 ∧ Below w.heap.size w wr) (fun _ n _ => l.length - (intOf n).toNat)
  case atStart => exact ⟨0, Nat.zero_le _, rfl, OwnR.nil _ _ _ _ (Nat.zero_le _), Below.refl _ _⟩
  case round =>
    obtain ⟨k, hk, rfl, hown, hb⟩ := hrel
    have hsz := hb.size
    by_cases hlt : k < l.length
    · have hki : (k : Int) < (l.length : Int) := by omega
      obtain ⟨b, off, hA, lb, ⟨o0, o1⟩, y0, y1⟩ := hr.elG hlt
      have HT : Hid (stgsW (l.take (k + 1)) = stgsW (l.take k) ++ [fmtF (stgN l[k])]) := Lib.hid (map_take _ hlt)
      have hkl : (stgsW (l.take k)).length ≤ 50000 := by simp [stgsW]; omega
      have hi3 : ∀ n ∈ stgN l[k], I64n n := by intro n hn; simp only [stgN, List.mem_cons, List.not_mem_nil, or_false] at hn; rcases hn with rfl | rfl <;> assumption
      have hfl := fmt_len hi3 (by simp [stgN])
      have HC : Hid (∀ (W : World) (g : Nat), Blk W g 3 #[.int .i64 l[k].el, .int .i64 l[k].pos] → Calls Tryz.prog 84 #[.slice (some ⟨g, 0, none⟩) 2 2] W fun e w' => e = .returned (.string (bs (fmtF (stgN l[k])))) ∧ W = w') := Lib.hid fun W g h => rfmtC (stgN l[k]) g 3 2 rfl hi3 (by simp [stgN]) W h
      rw [hA]
      clear hA hi3 o0 o1
      generalize fmtF (stgN l[k]) = fx at *
      generalize l[k] = q at *
      generalize stgsW (l.take k) = ws at *
      have HSS : Hid (∀ W, (OwnR cS W w.heap.size 9 u3 ws 0 ∧ Below w.heap.size w W) → (fun w' => w'.cell? ⟨b, off + k * 2, none⟩ = some (.int .i64 q.el) ∧ w'.cell? ⟨b, off + k * 2 + 1, none⟩ = some (.int .i64 q.pos) ∧ (OwnR cS w' w.heap.size 9 u3 ws 0 ∧ Below w.heap.size w w')) W) := Lib.hid fun W h => ⟨(h.2.cell (p := ⟨b, off + k * 2, none⟩) lb).trans y0, (h.2.cell (p := ⟨b, off + k * 2 + 1, none⟩) lb).trans y1, h⟩
      clear y0 y1
      go_wp2_with fail
      refine wp_region_held_drew (S := (fun w' => w'.cell? ⟨b, off + k * 2, none⟩ = some (.int .i64 q.el) ∧ w'.cell? ⟨b, off + k * 2 + 1, none⟩ = some (.int .i64 q.pos) ∧ (OwnR cS w' w.heap.size 9 u3 ws 0 ∧ Below w.heap.size w w'))) (by kernel_rfl) (HSS.out _ ⟨hown.drew, hb.drew⟩) (fun hHeld => ?_)
      refine tkY (i := 0) (oi := .mk (some 11) (.move (.tmp 3)) 46 "ref.go:23" #[] none) (v := ?_) rfl (by kernel_rfl) (fun _ _ _ h => h) (Or.inl ⟨by rfl, ?_⟩) (by assumption) ?_
      rotate_left
      · intro W hSw; (try dsimp only at hSw); go_simp; first | done | with_reducible rfl
      try simp only [Act.put, lsa, lsz, lss]
      refine tkY (i := 1) (oi := .mk (some 12) (.move (.tmp 0)) 38 "ref.go:23" #[] none) (v := ?_) rfl (by kernel_rfl) (fun _ _ _ h => h) (Or.inl ⟨by rfl, ?_⟩) (by assumption) ?_
      rotate_left
      · intro W hSw; (try dsimp only at hSw); go_simp; first | done | with_reducible rfl
      try simp only [Act.put, lsa, lsz, lss]
      refine tkY (i := 2) (oi := .mk (some 13) (.move (.tmp 4)) 3 "ref.go:23" #[] none) (v := ?_) rfl (by kernel_rfl) (fun _ _ _ h => h) (Or.inl ⟨by rfl, ?_⟩) (by assumption) ?_
      rotate_left
      · intro W hSw; (try dsimp only at hSw); go_simp; first | done | with_reducible rfl
      try simp only [Act.put, lsa, lsz, lss]
      refine tkY (i := 3) (oi := .mk (some 14) (.indexAddr 38 (.tmp 12) (.tmp 13)) 0 "ref.go:23" #[.mk 1 .data, .mk 2 .data] none) (v := ?_) rfl (by kernel_rfl) (fun _ _ _ h => h) (Or.inl ⟨by rfl, ?_⟩) (by assumption) ?_
      rotate_left
      · intro W hSw; (try dsimp only at hSw); go_simp; first | done | with_reducible rfl
      try simp only [Act.put, lsa, lsz, lss]
      refine tkY (i := 4) (oi := .mk (some 15) (.fieldAddr 99 (.tmp 14) 0) 0 "ref.go:23" #[.mk 3 .data] none) (v := ?_) rfl (by kernel_rfl) (fun _ _ _ h => h) (Or.inl ⟨by rfl, ?_⟩) (by assumption) ?_
      rotate_left
      · intro W hSw; (try dsimp only at hSw); go_simp; first | done | with_reducible rfl
      try simp only [Act.put, lsa, lsz, lss]
      refine tkY (i := 5) (oi := .mk (some 16) (.load 3 (.tmp 15)) 3 "ref.go:23" #[.mk 4 .data] none) (v := ?_) rfl (by kernel_rfl) (fun _ _ _ h => h) (Or.inl ⟨by rfl, ?_⟩) (by assumption) ?_
      rotate_left
      · intro W hSw; (try dsimp only at hSw); go_simp; first | done | with_reducible rfl
      try simp only [Act.put, lsa, lsz, lss]
      refine tkY (i := 6) (oi := .mk (some 17) (.move (.tmp 0)) 38 "ref.go:23" #[] none) (v := ?_) rfl (by kernel_rfl) (fun _ _ _ h => h) (Or.inl ⟨by rfl, ?_⟩) (by assumption) ?_
      rotate_left
      · intro W hSw; (try dsimp only at hSw); go_simp; first | done | with_reducible rfl
      try simp only [Act.put, lsa, lsz, lss]
      refine tkY (i := 7) (oi := .mk (some 18) (.move (.tmp 4)) 3 "ref.go:23" #[] none) (v := ?_) rfl (by kernel_rfl) (fun _ _ _ h => h) (Or.inl ⟨by rfl, ?_⟩) (by assumption) ?_
      rotate_left
      · intro W hSw; (try dsimp only at hSw); go_simp; first | done | with_reducible rfl
      try simp only [Act.put, lsa, lsz, lss]
      refine tkY (i := 8) (oi := .mk (some 19) (.indexAddr 38 (.tmp 17) (.tmp 18)) 0 "ref.go:23" #[.mk 6 .data, .mk 7 .data] none) (v := ?_) rfl (by kernel_rfl) (fun _ _ _ h => h) (Or.inl ⟨by rfl, ?_⟩) (by assumption) ?_
      rotate_left
      · intro W hSw; (try dsimp only at hSw); go_simp; first | done | with_reducible rfl
      try simp only [Act.put, lsa, lsz, lss]
      refine tkY (i := 9) (oi := .mk (some 20) (.fieldAddr 99 (.tmp 19) 1) 0 "ref.go:23" #[.mk 8 .data] none) (v := ?_) rfl (by kernel_rfl) (fun _ _ _ h => h) (Or.inl ⟨by rfl, ?_⟩) (by assumption) ?_
      rotate_left
      · intro W hSw; (try dsimp only at hSw); go_simp; first | done | with_reducible rfl
      try simp only [Act.put, lsa, lsz, lss]
      refine tkY (i := 10) (oi := .mk (some 21) (.load 3 (.tmp 20)) 3 "ref.go:23" #[.mk 9 .data] none) (v := ?_) rfl (by kernel_rfl) (fun _ _ _ h => h) (Or.inl ⟨by rfl, ?_⟩) (by assumption) ?_
      rotate_left
      · intro W hSw; (try dsimp only at hSw); go_simp; first | done | with_reducible rfl
      try simp only [Act.put, lsa, lsz, lss]
      refine wpAnyH_ready (rs := [11]) (by kernel_rfl) (by simp) (AllReadyH.cons (o := .mk (some 22) (.buildSlice 23 2 #[(0, .tmp 16), (1, .tmp 21)]) 23 "ref.go:23" #[.mk 5 .data, .mk 10 .data] none) rfl (fun K hK => ?_) AllReadyH.nil)
      go_simp
      refine hK.out _ _ ?_ (fun hHeld => ?_)
      · exact HSS.out _ ⟨(hown.alloc _).drew, (hb.alloc hsz _).drew⟩
      clear hK K
      try simp only [Act.put, lsa, lsz, lss]
      refine wpAnyH_ready (rs := [12]) (by kernel_rfl) (by simp) (AllReadyH.cons (o := .mk (some 23) (.call (.mk (.value (.func 84)) #[.tmp 22] #[23])) 9 "ref.go:23" #[.mk 11 .data] none) rfl (fun K hK => ?_) AllReadyH.nil)
      go_simp
      go_at_call 84
      refine (HC.out _ _ (by exact (Blk.new _ _ _ _ rfl).drew)).mono ?_
      rintro e wq ⟨rfl, rfl⟩
      go_wp2_with fail
      refine hK.out _ _ ?_ (fun hHeld => ?_)
      · exact HSS.out _ ⟨(hown.alloc _).drew, (hb.alloc hsz _).drew⟩
      clear hK K
      try simp only [Act.put, lsa, lsz, lss]
      refine wpAnyH_ready (rs := [13]) (by kernel_rfl) (by simp) (AllReadyH.cons (o := .mk (some 24) (.buildSlice 46 1 #[(0, .tmp 23)]) 46 "ref.go:23" #[.mk 12 .data] none) rfl (fun K hK => ?_) AllReadyH.nil)
      go_simp
      refine hK.out _ _ ?_ (fun hHeld => ?_)
      · exact HSS.out _ ⟨((hown.alloc _).alloc _).drew, ((hb.alloc hsz _).alloc (by simp; omega) _).drew⟩
      clear hK K
      try simp only [Act.put, lsa, lsz, lss]
      have hoC := ((hown.alloc (.cells #[.int .i64 q.el, .int .i64 q.pos] 3)).alloc (.cells #[.string (bs fx)] 9)).drew
      have hbC := ((hb.alloc hsz (.cells #[.int .i64 q.el, .int .i64 q.pos] 3)).alloc (by simp; omega) (.cells #[.string (bs fx)] 9)).drew
      have hkC : Blk ((wr.alloc (.cells #[.int .i64 q.el, .int .i64 q.pos] 3)).alloc (.cells #[.string (bs fx)] 9)).drew (wr.heap.size + 1) 9 [Value.string (bs fx)].toArray := (Blk.new _ _ _ _ (by simp)).drew
      refine wpAnyH_ready (rs := [14]) (by kernel_rfl) (by simp) (AllReadyH.cons (o := .mk (some 25) (.call (.mk (.builtin .append) #[.tmp 11, .tmp 24] #[46, 46])) 46 "ref.go:23" #[.mk 0 .data, .mk 13 .data, .mk 12 .chain] none) rfl (fun K hK => ?_) AllReadyH.nil)
      refine step_append_r (c := cS) rfl _ _ 46 rfl w.heap.size 9 i0 _ 16 Tryz.underlying46 hi0 hz0 hz1 hz2 rfl (by decide) u3 ws 0 rfl hoC [_] fx ⟨rfl, by unfold maxLen; omega⟩ (fun u hu => by (simp at hu; subst hu; rfl)) _ rfl (blk_cells hkC) (by omega) (by omega) hbC.size ?_
      intro v5 w5 hown5 hold5 hf5
      have hb5 := hf5.keeps (Nat.le_refl _) hbC.size hbC
      refine hK.out _ _ ?_ (fun hHeld => ?_)
      · exact HSS.out _ ⟨hold5, hb5⟩
      clear hK K
      try simp only [Act.put, lsa, lsz, lss]
      refine tkY (i := 15) (oi := .mk (some 3) (.assign (.tmp 25)) 46 "ref.go:23" #[.mk 14 .data, .mk 14 .chain, .mk 0 .phase, .mk 1 .phase, .mk 2 .phase, .mk 3 .phase, .mk 4 .phase, .mk 5 .phase, .mk 6 .phase, .mk 7 .phase, .mk 8 .phase, .mk 9 .phase, .mk 10 .phase, .mk 11 .phase, .mk 12 .phase, .mk 13 .phase, .mk 14 .phase] none) (v := ?_) rfl (by kernel_rfl) (fun _ _ _ h => h) (Or.inl ⟨by rfl, ?_⟩) (by assumption) ?_
      rotate_left
      · intro W hSw; (try dsimp only at hSw); go_simp; first | done | with_reducible rfl
      try simp only [Act.put, lsa, lsz, lss]
      refine wpAnyH_done (by kernel_rfl) ?_ _
      go_wp2_with fail
      go_roundw
      case rel => exact ⟨k + 1, by omega, by go_num, by rw [HT.out]; exact hown5.low cS_flat, hb5⟩
      case measure => simp [intOf]; omega
    · have HE : Hid (stgsW (l.take k) = stgsW l) := Lib.hid (by rw [List.take_of_length_le (by omega)])
      rw [HE.out] at hown
      obtain ⟨A', c', rfl⟩ := hown.form
      have HO := Lib.hid hown
      clear hown HE
      go_wp2_with fail
      go_ret
      exact ⟨A', c', rfl, HO.out, hb⟩
set_option maxRecDepth 100000 in
set_option maxHeartbeats 8000000 in
theorem rends_any (l : List End2) (A : Option Addr) (cap : Nat) (w : World) (hr : RdS cEnd w (Lt w) A l) (hl : l.length ≤ 40000) :
    Calls Tryz.prog 60 #[.slice A l.length cap] w (RowP w (endsW l)) := by
  obtain ⟨i0, hi0, hz0, hz1, hz2⟩ := info_parts infoStrT
  go_enter Tryz.func60, Tryz.ntmps60
  go_wp2_with fail
  go_loopw [3, 4] (fun s n wr => ∃ k : Nat, k ≤ l.length ∧ n = .int .i64 k ∧ OwnR cS wr w.heap.size 9 s (endsW (l.take k)) 0 ∧ Below w.heap.size w wr) (fun _ n _ => l.length - (intOf n).toNat)
  case atStart => exact ⟨0, Nat.zero_le _, rfl, OwnR.nil _ _ _ _ (Nat.zero_le _), Below.refl _ _⟩
  case round =>
    obtain ⟨k, hk, rfl, hown, hb⟩ := hrel
    have hsz := hb.size
    by_cases hlt : k < l.length
    · have hki : (k : Int) < (l.length : Int) := by omega
      obtain ⟨b, off, hA, lb, ⟨o0, o1⟩, y0, y1⟩ := hr.elD hlt
      have HT : Hid (endsW (l.take (k + 1)) = endsW (l.take k) ++ [fmtF (endN l[k])]) := Lib.hid (map_take _ hlt)
      have hkl : (endsW (l.take k)).length ≤ 50000 := by simp [endsW]; omega
      have hi3 : ∀ n ∈ endN l[k], I64n n := by intro n hn; simp only [endN, List.mem_cons, List.not_mem_nil, or_false] at hn; rcases hn with rfl | rfl <;> assumption
      have hfl := fmt_len hi3 (by simp [endN])
      have HC : Hid (∀ (W : World) (g : Nat), Blk W g 3 #[.int .i64 l[k].el, .int .i64 l[k].sd] → Calls Tryz.prog 84 #[.slice (some ⟨g, 0, none⟩) 2 2] W fun e w' => e = .returned (.string (bs (fmtF (endN l[k])))) ∧ W = w') := Lib.hid fun W g h => rfmtC (endN l[k]) g 3 2 rfl hi3 (by simp [endN]) W h
      rw [hA]
      clear hA hi3 o0 o1
      generalize fmtF (endN l[k]) = fx at *
      generalize l[k] = q at *
      generalize endsW (l.take k) = ws at *
      have HSS : Hid (∀ W, (OwnR cS W w.heap.size 9 u3 ws 0 ∧ Below w.heap.size w W) → (fun w' => w'.cell? ⟨b, off + k * 2, none⟩ = some (.int .i64 q.el) ∧ w'.cell? ⟨b, off + k * 2 + 1, none⟩ = some (.int .i64 q.sd) ∧ (OwnR cS w' w.heap.size 9 u3 ws 0 ∧ Below w.heap.size w w')) W) := Lib.hid fun W h => ⟨(h.2.cell (p := ⟨b, off + k * 2, none⟩) lb).trans y0, (h.2.cell (p := ⟨b, off + k * 2 + 1, none⟩) lb).trans y1, h⟩
      clear y0 y1
      go_wp2_with fail
      refine wp_region_held_drew (S := (fun w' => w'.cell? ⟨b, off + k * 2, none⟩ = some (.int .i64 q.el) ∧ w'.cell? ⟨b, off + k * 2 + 1, none⟩ = some (.int .i64 q.sd) ∧ (OwnR cS w' w.heap.size 9 u3 ws 0 ∧ Below w.heap.size w w'))) (by kernel_rfl) (HSS.out _ ⟨hown.drew, hb.drew⟩) (fun hHeld => ?_)
      refine tkY (i := 0) (oi := .mk (some 11) (.move (.tmp 3)) 46 "ref.go:32" #[] none) (v := ?_) rfl (by kernel_rfl) (fun _ _ _ h => h) (Or.inl ⟨by rfl, ?_⟩) (by assumption) ?_
      rotate_left
      · intro W hSw; (try dsimp only at hSw); go_simp; first | done | with_reducible rfl
      try simp only [Act.put, lsa, lsz, lss]
      refine tkY (i := 1) (oi := .mk (some 12) (.move (.tmp 0)) 39 "ref.go:32" #[] none) (v := ?_) rfl (by kernel_rfl) (fun _ _ _ h => h) (Or.inl ⟨by rfl, ?_⟩) (by assumption) ?_
      rotate_left
      · intro W hSw; (try dsimp only at hSw); go_simp; first | done | with_reducible rfl
      try simp only [Act.put, lsa, lsz, lss]
      refine tkY (i := 2) (oi := .mk (some 13) (.move (.tmp 4)) 3 "ref.go:32" #[] none) (v := ?_) rfl (by kernel_rfl) (fun _ _ _ h => h) (Or.inl ⟨by rfl, ?_⟩) (by assumption) ?_
      rotate_left
      · intro W hSw; (try dsimp only at hSw); go_simp; first | done | with_reducible rfl
      try simp only [Act.put, lsa, lsz, lss]
      refine tkY (i := 3) (oi := .mk (some 14) (.indexAddr 39 (.tmp 12) (.tmp 13)) 0 "ref.go:32" #[.mk 1 .data, .mk 2 .data] none) (v := ?_) rfl (by kernel_rfl) (fun _ _ _ h => h) (Or.inl ⟨by rfl, ?_⟩) (by assumption) ?_
      rotate_left
      · intro W hSw; (try dsimp only at hSw); go_simp; first | done | with_reducible rfl
      try simp only [Act.put, lsa, lsz, lss]
      refine tkY (i := 4) (oi := .mk (some 15) (.fieldAddr 107 (.tmp 14) 0) 0 "ref.go:32" #[.mk 3 .data] none) (v := ?_) rfl (by kernel_rfl) (fun _ _ _ h => h) (Or.inl ⟨by rfl, ?_⟩) (by assumption) ?_
      rotate_left
      · intro W hSw; (try dsimp only at hSw); go_simp; first | done | with_reducible rfl
      try simp only [Act.put, lsa, lsz, lss]
      refine tkY (i := 5) (oi := .mk (some 16) (.load 3 (.tmp 15)) 3 "ref.go:32" #[.mk 4 .data] none) (v := ?_) rfl (by kernel_rfl) (fun _ _ _ h => h) (Or.inl ⟨by rfl, ?_⟩) (by assumption) ?_
      rotate_left
      · intro W hSw; (try dsimp only at hSw); go_simp; first | done | with_reducible rfl
      try simp only [Act.put, lsa, lsz, lss]
      refine tkY (i := 6) (oi := .mk (some 17) (.move (.tmp 0)) 39 "ref.go:32" #[] none) (v := ?_) rfl (by kernel_rfl) (fun _ _ _ h => h) (Or.inl ⟨by rfl, ?_⟩) (by assumption) ?_
      rotate_left
      · intro W hSw; (try dsimp only at hSw); go_simp; first | done | with_reducible rfl
      try simp only [Act.put, lsa, lsz, lss]
      refine tkY (i := 7) (oi := .mk (some 18) (.move (.tmp 4)) 3 "ref.go:32" #[] none) (v := ?_) rfl (by kernel_rfl) (fun _ _ _ h => h) (Or.inl ⟨by rfl, ?_⟩) (by assumption) ?_
      rotate_left
      · intro W hSw; (try dsimp only at hSw); go_simp; first | done | with_reducible rfl
      try simp only [Act.put, lsa, lsz, lss]
      refine tkY (i := 8) (oi := .mk (some 19) (.indexAddr 39 (.tmp 17) (.tmp 18)) 0 "ref.go:32" #[.mk 6 .data, .mk 7 .data] none) (v := ?_) rfl (by kernel_rfl) (fun _ _ _ h => h) (Or.inl ⟨by rfl, ?_⟩) (by assumption) ?_
      rotate_left
      · intro W hSw; (try dsimp only at hSw); go_simp; first | done | with_reducible rfl
      try simp only [Act.put, lsa, lsz, lss]
      refine tkY (i := 9) (oi := .mk (some 20) (.fieldAddr 107 (.tmp 19) 1) 0 "ref.go:32" #[.mk 8 .data] none) (v := ?_) rfl (by kernel_rfl) (fun _ _ _ h => h) (Or.inl ⟨by rfl, ?_⟩) (by assumption) ?_
      rotate_left
      · intro W hSw; (try dsimp only at hSw); go_simp; first | done | with_reducible rfl
      try simp only [Act.put, lsa, lsz, lss]
      refine tkY (i := 10) (oi := .mk (some 21) (.load 3 (.tmp 20)) 3 "ref.go:32" #[.mk 9 .data] none) (v := ?_) rfl (by kernel_rfl) (fun _ _ _ h => h) (Or.inl ⟨by rfl, ?_⟩) (by assumption) ?_
      rotate_left
      · intro W hSw; (try dsimp only at hSw); go_simp; first | done | with_reducible rfl
      try simp only [Act.put, lsa, lsz, lss]
      refine wpAnyH_ready (rs := [11]) (by kernel_rfl) (by simp) (AllReadyH.cons (o := .mk (some 22) (.buildSlice 23 2 #[(0, .tmp 16), (1, .tmp 21)]) 23 "ref.go:32" #[.mk 5 .data, .mk 10 .data] none) rfl (fun K hK => ?_) AllReadyH.nil)
      go_simp
      refine hK.out _ _ ?_ (fun hHeld => ?_)
      · exact HSS.out _ ⟨(hown.alloc _).drew, (hb.alloc hsz _).drew⟩
      clear hK K
      try simp only [Act.put, lsa, lsz, lss]
      refine wpAnyH_ready (rs := [12]) (by kernel_rfl) (by simp) (AllReadyH.cons (o := .mk (some 23) (.call (.mk (.value (.func 84)) #[.tmp 22] #[23])) 9 "ref.go:32" #[.mk 11 .data] none) rfl (fun K hK => ?_) AllReadyH.nil)
      go_simp
      go_at_call 84
      refine (HC.out _ _ (by exact (Blk.new _ _ _ _ rfl).drew)).mono ?_
      rintro e wq ⟨rfl, rfl⟩
      go_wp2_with fail
      refine hK.out _ _ ?_ (fun hHeld => ?_)
      · exact HSS.out _ ⟨(hown.alloc _).drew, (hb.alloc hsz _).drew⟩
      clear hK K
      try simp only [Act.put, lsa, lsz, lss]
      refine wpAnyH_ready (rs := [13]) (by kernel_rfl) (by simp) (AllReadyH.cons (o := .mk (some 24) (.buildSlice 46 1 #[(0, .tmp 23)]) 46 "ref.go:32" #[.mk 12 .data] none) rfl (fun K hK => ?_) AllReadyH.nil)
      go_simp
      refine hK.out _ _ ?_ (fun hHeld => ?_)
      · exact HSS.out _ ⟨((hown.alloc _).alloc _).drew, ((hb.alloc hsz _).alloc (by simp; omega) _).drew⟩
      clear hK K
      try simp only [Act.put, lsa, lsz, lss]
      have hoC := ((hown.alloc (.cells #[.int .i64 q.el, .int .i64 q.sd] 3)).alloc (.cells #[.string (bs fx)] 9)).drew
      have hbC := ((hb.alloc hsz (.cells #[.int .i64 q.el, .int .i64 q.sd] 3)).alloc (by simp; omega) (.cells #[.string (bs fx)] 9)).drew
      have hkC : Blk ((wr.alloc (.cells #[.int .i64 q.el, .int .i64 q.sd] 3)).alloc (.cells #[.string (bs fx)] 9)).drew (wr.heap.size + 1) 9 [Value.string (bs fx)].toArray := (Blk.new _ _ _ _ (by simp)).drew
      refine wpAnyH_ready (rs := [14]) (by kernel_rfl) (by simp) (AllReadyH.cons (o := .mk (some 25) (.call (.mk (.builtin .append) #[.tmp 11, .tmp 24] #[46, 46])) 46 "ref.go:32" #[.mk 0 .data, .mk 13 .data, .mk 12 .chain] none) rfl (fun K hK => ?_) AllReadyH.nil)
      refine step_append_r (c := cS) rfl _ _ 46 rfl w.heap.size 9 i0 _ 16 Tryz.underlying46 hi0 hz0 hz1 hz2 rfl (by decide) u3 ws 0 rfl hoC [_] fx ⟨rfl, by unfold maxLen; omega⟩ (fun u hu => by (simp at hu; subst hu; rfl)) _ rfl (blk_cells hkC) (by omega) (by omega) hbC.size ?_
      intro v5 w5 hown5 hold5 hf5
      have hb5 := hf5.keeps (Nat.le_refl _) hbC.size hbC
      refine hK.out _ _ ?_ (fun hHeld => ?_)
      · exact HSS.out _ ⟨hold5, hb5⟩
      clear hK K
      try simp only [Act.put, lsa, lsz, lss]
      refine tkY (i := 15) (oi := .mk (some 3) (.assign (.tmp 25)) 46 "ref.go:32" #[.mk 14 .data, .mk 14 .chain, .mk 0 .phase, .mk 1 .phase, .mk 2 .phase, .mk 3 .phase, .mk 4 .phase, .mk 5 .phase, .mk 6 .phase, .mk 7 .phase, .mk 8 .phase, .mk 9 .phase, .mk 10 .phase, .mk 11 .phase, .mk 12 .phase, .mk 13 .phase, .mk 14 .phase] none) (v := ?_) rfl (by kernel_rfl) (fun _ _ _ h => h) (Or.inl ⟨by rfl, ?_⟩) (by assumption) ?_
      rotate_left
      · intro W hSw; (try dsimp only at hSw); go_simp; first | done | with_reducible rfl
      try simp only [Act.put, lsa, lsz, lss]
      refine wpAnyH_done (by kernel_rfl) ?_ _
      go_wp2_with fail
      go_roundw
      case rel => exact ⟨k + 1, by omega, by go_num, by rw [HT.out]; exact hown5.low cS_flat, hb5⟩
      case measure => simp [intOf]; omega
    · have HE : Hid (endsW (l.take k) = endsW l) := Lib.hid (by rw [List.take_of_length_le (by omega)])
      rw [HE.out] at hown
      obtain ⟨A', c', rfl⟩ := hown.form
      have HO := Lib.hid hown
      clear hown HE
      go_wp2_with fail
      go_ret
      exact ⟨A', c', rfl, HO.out, hb⟩
set_option maxRecDepth 100000 in
set_option maxHeartbeats 4000000 in
theorem rnumbers_any (l : List Int) (A : Option Addr) (cap : Nat) (w : World) (hr : RdS cI w (Lt w) A l) (hl : l.length ≤ 40000) :
    Calls Tryz.prog 59 #[.slice A l.length cap] w (RowP w (numsW l)) := by
  obtain ⟨i0, hi0, hz0, hz1, hz2⟩ := info_parts infoStrT
  go_enter Tryz.func59, Tryz.ntmps59
  go_wp2_with fail
  go_loopw [3, 4] (fun s n wr => ∃ k : Nat, k ≤ l.length ∧ n = .int .i64 k ∧ OwnR cS wr w.heap.size 9 s (numsW (l.take k)) 0 ∧ Below w.heap.size w wr) (fun _ n _ => l.length - (intOf n).toNat)
  case atStart => exact ⟨0, Nat.zero_le _, rfl, OwnR.nil _ _ _ _ (Nat.zero_le _), Below.refl _ _⟩
  case round =>
    obtain ⟨k, hk, rfl, hown, hb⟩ := hrel
    have hsz := hb.size
    by_cases hlt : k < l.length
    · have hki : (k : Int) < (l.length : Int) := by omega
      obtain ⟨b, off, hA, lb, o0, y0⟩ := (hr.now hb).elI hlt
      have HT : Hid (numsW (l.take (k + 1)) = numsW (l.take k) ++ [Lib.itoa l[k]]) := Lib.hid (map_take _ hlt)
      have hkl : (numsW (l.take k)).length ≤ 50000 := by simp [numsW]; omega
      have hfl := itoaP_len l[k] o0
      rw [hA]
      clear hA
      generalize l[k] = n at *
      generalize numsW (l.take k) = ws at *
      go_wp2_with fail
      refine (rformat_any n _ o0.1 o0.2).mono ?_
      rintro e w4 ⟨rfl, rfl⟩
      go_wp2_with (at_builtin; go_loud (refine wpList_append_r (c := cS) _ rfl _ _ 46 rfl w.heap.size 9 i0 _ 16 Tryz.underlying46 hi0 hz0 hz1 hz2 rfl (by decide) _ ws 0 rfl hown [_] (Lib.itoa n) ⟨rfl, by unfold maxLen; omega⟩ (fun u hu => by (simp at hu; subst hu; rfl)) _ rfl (by omega) (by omega) (by omega) ?_); intro v' w5 hown5 hf5 hs5)
      go_roundw
      case rel => exact ⟨k + 1, by omega, by go_num, by rw [HT.out]; exact hown5, hf5.keeps (Nat.le_refl _) hsz hb⟩
      case measure => simp [intOf]; omega
    · have HE : Hid (numsW (l.take k) = numsW l) := Lib.hid (by rw [List.take_of_length_le (by omega)])
      rw [HE.out] at hown
      obtain ⟨A', c', rfl⟩ := hown.form
      have HO := Lib.hid hown
      clear hown HE
      go_wp2_with fail
      go_ret
      exact ⟨A', c', rfl, HO.out, hb⟩
/-! ### The lines of lists -/
theorem LowR.ownF {α : Type} {c : Cod α} (hc : Flat c) {w : World} {base : Nat} {e : TypeId} {v : Value} {l : List α} (h : LowR c w base e v l) : OwnR c w base e v l 0 := by
  obtain ⟨xs, h1, h2, _⟩ := h
  exact ⟨xs, h1, h2.flat hc, Nat.zero_le _⟩
theorem low_one {w : World} {base g : Nat} {e : TypeId} {x : List UInt8} (h : Blk w g e #[.string (bs x)]) (hg : base ≤ g) (hx : x.length ≤ 20) : LowR cS w base e (.slice (some ⟨g, 0, none⟩) 1 1) [x] :=
  ⟨[.string (bs x)], ⟨by simp [cS], Or.inr ⟨g, 1, _, rfl, hg, h, Nat.le_refl _, by unfold maxLen; omega, by simp [cS], by simp [cS]⟩⟩, ⟨[.string (bs x)], [], rfl, ⟨rfl, Nat.le_trans hx (by unfold maxLen; omega)⟩, rfl⟩, Nat.le_of_lt (Nat.lt_of_le_of_lt hg h.lt)⟩
theorem lstW_nil (w : List UInt8) : lstW w [] = [] := rfl
theorem lstW_cons {w : List UInt8} {l : List (List UInt8)} (h : l ≠ []) : lstW w l = [w :: l] := if_neg h
/-- Lines that grow, and what a call that makes them grow leaves. -/
def LnsP (base : Nat) (w : World) (lns : Lns) (e : Ending) (w' : World) : Prop := ∃ s', e = .returned s' ∧ OwnR (cL cS) w' base 46 s' lns w'.heap.size ∧ Frm base 46 w w'
set_option maxRecDepth 100000 in
set_option maxHeartbeats 8000000 in
theorem listed_any (s : Value) (lns : Lns) (x : List UInt8) (l : List (List UInt8)) (A : Option Addr) (cap : Nat) (base : Nat) (w : World) (hx : x.length ≤ 20) (hl : l.length ≤ 40000) (hlns : lns.length ≤ 50000) (hbase : base ≤ w.heap.size)
    (hown : OwnR (cL cS) w base 46 s lns w.heap.size) (hr : RdS cS w (Lt w) A l) : Calls Tryz.prog 56 #[s, .string (bs x), .slice A l.length cap] w (LnsP base w (lns ++ lstW x l)) := by
  obtain ⟨i0, hi0, hz0, hz1, hz2⟩ := info_parts infoStrT
  obtain ⟨j0, hj0, hy0, hy1, hy2⟩ := info_parts infoStrsT
  by_cases hne : l = []
  · subst hne
    go_enter Tryz.func56, Tryz.ntmps56
    go_wp2_with fail
    go_ret
    exact ⟨s, rfl, by rw [lstW_nil, List.append_nil]; exact hown, Frm.refl _ _ _⟩
  have HE := Lib.hid (lstW_cons (w := x) hne)
  have hl0 : ((l.length : Int) == 0) = false := by have := List.length_pos_iff.2 hne; simp; omega
  clear hne
  have hk1 : Blk (w.alloc (.cells #[.string (bs x)] 9)) w.heap.size 9 #[.string (bs x)] := Blk.new _ _ _ _ rfl
  have hlow0 := low_one (base := w.heap.size) hk1 (Nat.le_refl _) hx
  have hA1 : RdS cS (w.alloc (.cells #[.string (bs x)] 9)) (fun b => b < w.heap.size) A l := hr.keep fun p hp => ((Below.refl w.heap.size w).alloc (Nat.le_refl _) _).cell hp
  have HOW := Lib.hid fun W (hb : Below w.heap.size (w.alloc (.cells #[.string (bs x)] 9)) W) => hown.now (((Below.refl w.heap.size w).alloc (Nat.le_refl _) (.cells #[.string (bs x)] 9)).trans hb)
  have HFR := Lib.hid fun W (hb : Below w.heap.size (w.alloc (.cells #[.string (bs x)] 9)) W) => (Frm.of_below (((Below.refl w.heap.size w).alloc (Nat.le_refl _) (.cells #[.string (bs x)] 9)).trans hb) : Frm base 46 w W)
  have hzw : (w.alloc (.cells #[.string (bs x)] 9)).heap.size = w.heap.size + 1 := by simp
  clear hr hown
  go_enter Tryz.func56, Tryz.ntmps56
  go_wp2_with (at_builtin; first
    | ((refine wpList_append_low (c := cS) _ rfl _ _ 46 rfl w.heap.size 9 i0 _ 16 Tryz.underlying46 hi0 hz0 hz1 hz2 rfl (by decide) _ [x] (by rfl) hlow0 A cap l (by rfl) hA1 (fun ys y h => by obtain ⟨rfl, _⟩ := h; intro u hu; simp at hu; subst hu; rfl) (by simp; omega) (by omega) ?_; intro v1 w1 hlow1 hb1; rw [List.singleton_append] at hlow1; have hown1 := HOW.out _ hb1; have hfr1 := HFR.out _ hb1; have hin := (hlow1.ownF cS_flat).inner (T := 46) (by decide); have hz1w := hfr1.size; obtain ⟨A7, c7, rfl, hin7⟩ := hin; clear hlow0 hA1))
    | (have hin8 := (cL cS).keep hin7 (fun p hp => rfl); go_loud (refine wpList_append_r (c := cL cS) _ rfl _ _ 43 rfl base 46 j0 _ 24 Tryz.underlying43 hj0 hy0 hy1 hy2 rfl (by decide) _ lns _ rfl (hown1.raise hz1w (Nat.le_refl _)) [_] (x :: l) hin8 (fun u hu => by (simp at hu; subst hu; rfl)) _ rfl (by omega) (by omega) (by omega) ?_); intro v2 w2 hown2 hf2 hs2))
  go_ret
  exact ⟨v2, rfl, by rw [HE.out]; exact hown2.raise (by omega) (Nat.le_refl _), hfr1.trans hf2⟩
/-- A route boxed, lines beside it. -/
structure RLn (base g : Nat) (v : RouV) (s : Value) (lns : Lns) (w : World) : Prop where
  own : OwnR (cL cS) w base 46 s lns w.heap.size
  blk : Blk w g 41 #[.string (bs v.r.name), .int .i64 v.r.ent, .int .i64 v.r.ext, .slice v.A1 v.r.path.length v.c1, .slice v.A2 v.r.pts.length v.c2, .slice v.A3 v.r.secs.length v.c3, .int .i64 v.r.app, .int .i64 v.r.len, .slice v.A4 v.r.over.length v.c4, .slice v.A5 v.r.opts.length v.c5, .slice v.A6 v.r.osecs.length v.c6, .slice v.A7 v.r.flk.length v.c7, .slice v.A8 v.r.grd.length v.c8, .slice v.A9 v.r.gap.length v.c9]
  rd : RvR w (fun b => b < base) v
  le : base ≤ w.heap.size
theorem RLn.frm {base g : Nat} {v : RouV} {s s' : Value} {lns lns' : Lns} {w w' : World} (h : RLn base g v s lns w) (ho : OwnR (cL cS) w' base 46 s' lns' w'.heap.size) (hf : Frm base 46 w w') : RLn base g v s' lns' w' :=
  ⟨ho, hf.blk h.blk (by decide), h.rd.keep fun p hp => cell_same (hf.low p.block hp (Nat.lt_of_lt_of_le hp h.le)), Nat.le_trans h.le hf.size⟩
theorem RLn.now {base g : Nat} {v : RouV} {s : Value} {lns : Lns} {w w' : World} (h : RLn base g v s lns w) (hb : Below w.heap.size w w') : RLn base g v s lns w' :=
  ⟨(h.own.now hb).raise hb.size (Nat.le_refl _), h.blk.now hb, h.rd.keep fun p hp => hb.cell (Nat.lt_of_lt_of_le hp h.le), Nat.le_trans h.le hb.size⟩
theorem RLn.lt {base g : Nat} {v : RouV} {s : Value} {lns : Lns} {w : World} (h : RLn base g v s lns w) : RvR w (Lt w) v := h.rd.more fun b hb => Nat.lt_of_lt_of_le hb h.le
theorem row_rds {w w1 : World} {A : Option Addr} {c : Nat} {l : List (List UInt8)} (h : OwnR cS w1 w.heap.size 9 (.slice A l.length c) l 0) : RdS cS w1 (Lt w1) A l := by
  obtain ⟨A', c', h1, _, h2⟩ := h.reads
  simp only [Value.slice.injEq] at h1
  rw [h1.1]
  exact h2
set_option maxRecDepth 100000 in
set_option maxHeartbeats 16000000 in
theorem rlists_any (v : RouV) (s : Value) (lns : Lns) (base : Nat) (w : World) (hlns : lns.length ≤ 40000) (hbase : base ≤ w.heap.size) (hsh : ShR v.r) (hown : OwnR (cL cS) w base 46 s lns w.heap.size) (hrv : RvR w (fun b => b < base) v) : Calls Tryz.prog 25 #[s, .agg #[.string (bs v.r.name), .int .i64 v.r.ent, .int .i64 v.r.ext, .slice v.A1 v.r.path.length v.c1, .slice v.A2 v.r.pts.length v.c2, .slice v.A3 v.r.secs.length v.c3, .int .i64 v.r.app, .int .i64 v.r.len, .slice v.A4 v.r.over.length v.c4, .slice v.A5 v.r.opts.length v.c5, .slice v.A6 v.r.osecs.length v.c6, .slice v.A7 v.r.flk.length v.c7, .slice v.A8 v.r.grd.length v.c8, .slice v.A9 v.r.gap.length v.c9]] w (LnsP base w (lns ++ listsR v.r)) := by
  have h0 : RLn base w.heap.size v s lns (w.alloc (.cells #[.string (bs v.r.name), .int .i64 v.r.ent, .int .i64 v.r.ext, .slice v.A1 v.r.path.length v.c1, .slice v.A2 v.r.pts.length v.c2, .slice v.A3 v.r.secs.length v.c3, .int .i64 v.r.app, .int .i64 v.r.len, .slice v.A4 v.r.over.length v.c4, .slice v.A5 v.r.opts.length v.c5, .slice v.A6 v.r.osecs.length v.c6, .slice v.A7 v.r.flk.length v.c7, .slice v.A8 v.r.grd.length v.c8, .slice v.A9 v.r.gap.length v.c9] 41)) := ⟨(hown.alloc _).raise (by simp) (Nat.le_refl _), Blk.new _ _ _ _ rfl, hrv.keep fun p hp => ((Below.refl w.heap.size w).alloc (Nat.le_refl _) _).cell (Nat.lt_of_lt_of_le hp hbase), by simp; omega⟩
  have f0 : Frm base 46 w (w.alloc (.cells #[.string (bs v.r.name), .int .i64 v.r.ent, .int .i64 v.r.ext, .slice v.A1 v.r.path.length v.c1, .slice v.A2 v.r.pts.length v.c2, .slice v.A3 v.r.secs.length v.c3, .int .i64 v.r.app, .int .i64 v.r.len, .slice v.A4 v.r.over.length v.c4, .slice v.A5 v.r.opts.length v.c5, .slice v.A6 v.r.osecs.length v.c6, .slice v.A7 v.r.flk.length v.c7, .slice v.A8 v.r.grd.length v.c8, .slice v.A9 v.r.gap.length v.c9] 41)) := Frm.of_below ((Below.refl _ _).alloc (Nat.le_refl _) _)
  obtain ⟨m0, m1, m2, m3, m4, m5, m6, m7, m8⟩ := hsh
  clear hown hrv hbase
  go_enter Tryz.func25, Tryz.ntmps25
  go_upto_region 1 with (fail)
  generalize w.alloc (.cells #[.string (bs v.r.name), .int .i64 v.r.ent, .int .i64 v.r.ext, .slice v.A1 v.r.path.length v.c1, .slice v.A2 v.r.pts.length v.c2, .slice v.A3 v.r.secs.length v.c3, .int .i64 v.r.app, .int .i64 v.r.len, .slice v.A4 v.r.over.length v.c4, .slice v.A5 v.r.opts.length v.c5, .slice v.A6 v.r.osecs.length v.c6, .slice v.A7 v.r.flk.length v.c7, .slice v.A8 v.r.grd.length v.c8, .slice v.A9 v.r.gap.length v.c9] 41) = w0 at *
  generalize w.heap.size = gr at *
  have y0 := h0.blk.cell 3
  simp only [List.getElem?_toArray, List.getElem?_cons_zero, List.getElem?_cons_succ] at y0
  have HC0 := Lib.hid (rsteps_any v.r.path v.A1 v.c1 w0 h0.lt.r1 m0)
  go_wp2_with fail
  refine HC0.out.mono ?_
  rintro e w1 ⟨B0, d0, rfl, hq0, hb0⟩
  have g0 := h0.now hb0
  have e0 : (stpsW v.r.path).length ≤ 40000 := by simpa [stpsW] using m0
  have HD0 := Lib.hid (listed_any s lns pathW (stpsW v.r.path) B0 d0 base w1 (by decide) e0 (by omega) g0.le g0.own (row_rds hq0))
  clear HC0 hq0 y0
  go_wp2_with fail
  refine HD0.out.mono ?_
  rintro e w2 ⟨s1, rfl, ho0, hf0⟩
  have h1 := g0.frm ho0 hf0
  have f1 := (f0.trans (Frm.of_below hb0)).trans hf0
  obtain ⟨l1, hl1⟩ : ∃ x, x = lns ++ lstW pathW (stpsW v.r.path) := ⟨_, rfl⟩
  rw [← hl1] at h1
  have n1 : l1.length ≤ lns.length + 1 := by rw [hl1, List.length_append, lst_len]; omega
  have HL1 := Lib.hid hl1
  clear hl1
  clear HD0 g0 ho0 hf0 hb0 h0 f0
  have y1 := h1.blk.cell 4
  simp only [List.getElem?_toArray, List.getElem?_cons_zero, List.getElem?_cons_succ] at y1
  have HC1 := Lib.hid (rsettings_any v.r.pts v.A2 v.c2 w2 h1.lt.r2 m1)
  go_wp2_with fail
  refine HC1.out.mono ?_
  rintro e w3 ⟨B1, d1, rfl, hq1, hb1⟩
  have g1 := h1.now hb1
  have e1 : (stgsW v.r.pts).length ≤ 40000 := by simpa [stgsW] using m1
  have HD1 := Lib.hid (listed_any s1 l1 pointsW (stgsW v.r.pts) B1 d1 base w3 (by decide) e1 (by omega) g1.le g1.own (row_rds hq1))
  clear HC1 hq1 y1
  go_wp2_with fail
  refine HD1.out.mono ?_
  rintro e w4 ⟨s2, rfl, ho1, hf1⟩
  have h2 := g1.frm ho1 hf1
  have f2 := (f1.trans (Frm.of_below hb1)).trans hf1
  obtain ⟨l2, hl2⟩ : ∃ x, x = l1 ++ lstW pointsW (stgsW v.r.pts) := ⟨_, rfl⟩
  rw [← hl2] at h2
  have n2 : l2.length ≤ l1.length + 1 := by rw [hl2, List.length_append, lst_len]; omega
  have HL2 := Lib.hid hl2
  clear hl2
  clear HD1 g1 ho1 hf1 hb1 h1 f1
  have y2 := h2.blk.cell 5
  simp only [List.getElem?_toArray, List.getElem?_cons_zero, List.getElem?_cons_succ] at y2
  have HC2 := Lib.hid (rnumbers_any v.r.secs v.A3 v.c3 w4 h2.lt.r3 m2)
  go_wp2_with fail
  refine HC2.out.mono ?_
  rintro e w5 ⟨B2, d2, rfl, hq2, hb2⟩
  have g2 := h2.now hb2
  have e2 : (numsW v.r.secs).length ≤ 40000 := by simpa [numsW] using m2
  have HD2 := Lib.hid (listed_any s2 l2 sectionsW (numsW v.r.secs) B2 d2 base w5 (by decide) e2 (by omega) g2.le g2.own (row_rds hq2))
  clear HC2 hq2 y2
  go_wp2_with fail
  refine HD2.out.mono ?_
  rintro e w6 ⟨s3, rfl, ho2, hf2⟩
  have h3 := g2.frm ho2 hf2
  have f3 := (f2.trans (Frm.of_below hb2)).trans hf2
  obtain ⟨l3, hl3⟩ : ∃ x, x = l2 ++ lstW sectionsW (numsW v.r.secs) := ⟨_, rfl⟩
  rw [← hl3] at h3
  have n3 : l3.length ≤ l2.length + 1 := by rw [hl3, List.length_append, lst_len]; omega
  have HL3 := Lib.hid hl3
  clear hl3
  clear HD2 g2 ho2 hf2 hb2 h2 f2
  have y3 := h3.blk.cell 8
  simp only [List.getElem?_toArray, List.getElem?_cons_zero, List.getElem?_cons_succ] at y3
  have HC3 := Lib.hid (rsteps_any v.r.over v.A4 v.c4 w6 h3.lt.r4 m3)
  go_wp2_with fail
  refine HC3.out.mono ?_
  rintro e w7 ⟨B3, d3, rfl, hq3, hb3⟩
  have g3 := h3.now hb3
  have e3 : (stpsW v.r.over).length ≤ 40000 := by simpa [stpsW] using m3
  have HD3 := Lib.hid (listed_any s3 l3 overW (stpsW v.r.over) B3 d3 base w7 (by decide) e3 (by omega) g3.le g3.own (row_rds hq3))
  clear HC3 hq3 y3
  go_wp2_with fail
  refine HD3.out.mono ?_
  rintro e w8 ⟨s4, rfl, ho3, hf3⟩
  have h4 := g3.frm ho3 hf3
  have f4 := (f3.trans (Frm.of_below hb3)).trans hf3
  obtain ⟨l4, hl4⟩ : ∃ x, x = l3 ++ lstW overW (stpsW v.r.over) := ⟨_, rfl⟩
  rw [← hl4] at h4
  have n4 : l4.length ≤ l3.length + 1 := by rw [hl4, List.length_append, lst_len]; omega
  have HL4 := Lib.hid hl4
  clear hl4
  clear HD3 g3 ho3 hf3 hb3 h3 f3
  have y4 := h4.blk.cell 9
  simp only [List.getElem?_toArray, List.getElem?_cons_zero, List.getElem?_cons_succ] at y4
  have HC4 := Lib.hid (rsettings_any v.r.opts v.A5 v.c5 w8 h4.lt.r5 m4)
  go_wp2_with fail
  refine HC4.out.mono ?_
  rintro e w9 ⟨B4, d4, rfl, hq4, hb4⟩
  have g4 := h4.now hb4
  have e4 : (stgsW v.r.opts).length ≤ 40000 := by simpa [stgsW] using m4
  have HD4 := Lib.hid (listed_any s4 l4 overpointsW (stgsW v.r.opts) B4 d4 base w9 (by decide) e4 (by omega) g4.le g4.own (row_rds hq4))
  clear HC4 hq4 y4
  go_wp2_with fail
  refine HD4.out.mono ?_
  rintro e w10 ⟨s5, rfl, ho4, hf4⟩
  have h5 := g4.frm ho4 hf4
  have f5 := (f4.trans (Frm.of_below hb4)).trans hf4
  obtain ⟨l5, hl5⟩ : ∃ x, x = l4 ++ lstW overpointsW (stgsW v.r.opts) := ⟨_, rfl⟩
  rw [← hl5] at h5
  have n5 : l5.length ≤ l4.length + 1 := by rw [hl5, List.length_append, lst_len]; omega
  have HL5 := Lib.hid hl5
  clear hl5
  clear HD4 g4 ho4 hf4 hb4 h4 f4
  have y5 := h5.blk.cell 10
  simp only [List.getElem?_toArray, List.getElem?_cons_zero, List.getElem?_cons_succ] at y5
  have HC5 := Lib.hid (rnumbers_any v.r.osecs v.A6 v.c6 w10 h5.lt.r6 m5)
  go_wp2_with fail
  refine HC5.out.mono ?_
  rintro e w11 ⟨B5, d5, rfl, hq5, hb5⟩
  have g5 := h5.now hb5
  have e5 : (numsW v.r.osecs).length ≤ 40000 := by simpa [numsW] using m5
  have HD5 := Lib.hid (listed_any s5 l5 oversectionsW (numsW v.r.osecs) B5 d5 base w11 (by decide) e5 (by omega) g5.le g5.own (row_rds hq5))
  clear HC5 hq5 y5
  go_wp2_with fail
  refine HD5.out.mono ?_
  rintro e w12 ⟨s6, rfl, ho5, hf5⟩
  have h6 := g5.frm ho5 hf5
  have f6 := (f5.trans (Frm.of_below hb5)).trans hf5
  obtain ⟨l6, hl6⟩ : ∃ x, x = l5 ++ lstW oversectionsW (numsW v.r.osecs) := ⟨_, rfl⟩
  rw [← hl6] at h6
  have n6 : l6.length ≤ l5.length + 1 := by rw [hl6, List.length_append, lst_len]; omega
  have HL6 := Lib.hid hl6
  clear hl6
  clear HD5 g5 ho5 hf5 hb5 h5 f5
  have y6 := h6.blk.cell 11
  simp only [List.getElem?_toArray, List.getElem?_cons_zero, List.getElem?_cons_succ] at y6
  have HC6 := Lib.hid (rsettings_any v.r.flk v.A7 v.c7 w12 h6.lt.r7 m6)
  go_wp2_with fail
  refine HC6.out.mono ?_
  rintro e w13 ⟨B6, d6, rfl, hq6, hb6⟩
  have g6 := h6.now hb6
  have e6 : (stgsW v.r.flk).length ≤ 40000 := by simpa [stgsW] using m6
  have HD6 := Lib.hid (listed_any s6 l6 flankW (stgsW v.r.flk) B6 d6 base w13 (by decide) e6 (by omega) g6.le g6.own (row_rds hq6))
  clear HC6 hq6 y6
  go_wp2_with fail
  refine HD6.out.mono ?_
  rintro e w14 ⟨s7, rfl, ho6, hf6⟩
  have h7 := g6.frm ho6 hf6
  have f7 := (f6.trans (Frm.of_below hb6)).trans hf6
  obtain ⟨l7, hl7⟩ : ∃ x, x = l6 ++ lstW flankW (stgsW v.r.flk) := ⟨_, rfl⟩
  rw [← hl7] at h7
  have n7 : l7.length ≤ l6.length + 1 := by rw [hl7, List.length_append, lst_len]; omega
  have HL7 := Lib.hid hl7
  clear hl7
  clear HD6 g6 ho6 hf6 hb6 h6 f6
  have y7 := h7.blk.cell 12
  simp only [List.getElem?_toArray, List.getElem?_cons_zero, List.getElem?_cons_succ] at y7
  have HC7 := Lib.hid (rnumbers_any v.r.grd v.A8 v.c8 w14 h7.lt.r8 m7)
  go_wp2_with fail
  refine HC7.out.mono ?_
  rintro e w15 ⟨B7, d7, rfl, hq7, hb7⟩
  have g7 := h7.now hb7
  have e7 : (numsW v.r.grd).length ≤ 40000 := by simpa [numsW] using m7
  have HD7 := Lib.hid (listed_any s7 l7 guardsW (numsW v.r.grd) B7 d7 base w15 (by decide) e7 (by omega) g7.le g7.own (row_rds hq7))
  clear HC7 hq7 y7
  go_wp2_with fail
  refine HD7.out.mono ?_
  rintro e w16 ⟨s8, rfl, ho7, hf7⟩
  have h8 := g7.frm ho7 hf7
  have f8 := (f7.trans (Frm.of_below hb7)).trans hf7
  obtain ⟨l8, hl8⟩ : ∃ x, x = l7 ++ lstW guardsW (numsW v.r.grd) := ⟨_, rfl⟩
  rw [← hl8] at h8
  have n8 : l8.length ≤ l7.length + 1 := by rw [hl8, List.length_append, lst_len]; omega
  have HL8 := Lib.hid hl8
  clear hl8
  clear HD7 g7 ho7 hf7 hb7 h7 f7
  have y8 := h8.blk.cell 13
  simp only [List.getElem?_toArray, List.getElem?_cons_zero, List.getElem?_cons_succ] at y8
  have HC8 := Lib.hid (rends_any v.r.gap v.A9 v.c9 w16 h8.lt.r9 m8)
  go_wp2_with fail
  refine HC8.out.mono ?_
  rintro e w17 ⟨B8, d8, rfl, hq8, hb8⟩
  have g8 := h8.now hb8
  have e8 : (endsW v.r.gap).length ≤ 40000 := by simpa [endsW] using m8
  have HD8 := Lib.hid (listed_any s8 l8 gapsW (endsW v.r.gap) B8 d8 base w17 (by decide) e8 (by omega) g8.le g8.own (row_rds hq8))
  clear HC8 hq8 y8
  go_wp2_with fail
  refine HD8.out.mono ?_
  rintro e w18 ⟨s9, rfl, ho8, hf8⟩
  have h9 := g8.frm ho8 hf8
  have f9 := (f8.trans (Frm.of_below hb8)).trans hf8
  obtain ⟨l9, hl9⟩ : ∃ x, x = l8 ++ lstW gapsW (endsW v.r.gap) := ⟨_, rfl⟩
  rw [← hl9] at h9
  have n9 : l9.length ≤ l8.length + 1 := by rw [hl9, List.length_append, lst_len]; omega
  have HL9 := Lib.hid hl9
  clear hl9
  clear HD8 g8 ho8 hf8 hb8 h8 f8
  have HLL : Hid (lns ++ listsR v.r = l9) := Lib.hid (by rw [HL9.out, HL8.out, HL7.out, HL6.out, HL5.out, HL4.out, HL3.out, HL2.out, HL1.out]; unfold listsR; simp only [List.append_assoc])
  go_wp2_with fail
  go_ret
  exact ⟨s9, rfl, by rw [HLL.out]; exact h9.own, f9⟩
end Go.Proofs.YtlblfblkallnhaaGreatDoor
