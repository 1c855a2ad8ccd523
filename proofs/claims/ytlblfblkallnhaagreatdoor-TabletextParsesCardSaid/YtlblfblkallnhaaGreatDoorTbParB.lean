/- stepsOf, settingsOf, endsOf. -/
import Derived.Test.YtlblfblkallnhaaGreatDoorTbParA
import Derived.Deep.RegionHeld3
import Derived.Deep.Cut
import Derived.IntWalk
namespace Go.Proofs.YtlblfblkallnhaaGreatDoor
set_option linter.unusedVariables false
set_option linter.unusedSimpArgs false
open Go.RowKit
attribute [local go_sem] bs_size bs_get bs_append bs_extract bs_toList
attribute [-go_sem] run_equalIn_agg
/-- A codec that looks at no block. -/
def Flat {α : Type} (c : Cod α) : Prop := ∀ (w w' : World) (S S' : Nat → Prop) (ys : List Value) (x : α), c.rd w S ys x → c.rd w' S' ys x
theorem cI_flat : Flat cI := fun _ _ _ _ _ _ h => h
theorem cStp_flat : Flat cStp := fun _ _ _ _ _ _ h => h
theorem cStg_flat : Flat cStg := fun _ _ _ _ _ _ h => h
theorem cEnd_flat : Flat cEnd := fun _ _ _ _ _ _ h => h
section
variable {α : Type} {c : Cod α} {w : World}
theorem RdC.flat (hc : Flat c) {S S' : Nat → Prop} : ∀ {l : List α} {xs : List Value}, RdC c w S xs l → RdC c w S' xs l
  | [], _, h => h
  | _ :: _, _, ⟨y, z, h1, h2, h3⟩ => ⟨y, z, h1, hc _ _ _ _ _ _ h2, RdC.flat hc h3⟩
theorem OwnR.low (hc : Flat c) {base B : Nat} {e : TypeId} {v : Value} {l : List α} (h : OwnR c w base e v l B) : OwnR c w base e v l 0 := by
  obtain ⟨xs, h1, h2, _⟩ := h
  exact ⟨xs, h1, h2.flat hc, Nat.zero_le _⟩
end
theorem blk_cells {w : World} {g : Nat} {t : TypeId} {ys : List Value} (h : Blk w g t ys.toArray) : ∀ (j : Nat) (u : Value), ys[j]? = some u → w.cell? ⟨g, j, none⟩ = some u := fun j u hj => (h.cell j).trans (by simpa using hj)
theorem infoStpT : (Tryz.prog.info? 50).map (fun i => (i.zero, i.size, i.bytes)) = some (some (.agg #[.int .i64 0, .int .i64 0, .int .i64 0]), 3, 24) := by kernel_rfl
theorem infoStgT : (Tryz.prog.info? 99).map (fun i => (i.zero, i.size, i.bytes)) = some (some (.agg #[.int .i64 0, .int .i64 0]), 2, 16) := by kernel_rfl
theorem infoEndT : (Tryz.prog.info? 107).map (fun i => (i.zero, i.size, i.bytes)) = some (some (.agg #[.int .i64 0, .int .i64 0]), 2, 16) := by kernel_rfl
section
variable {α : Type} {mk : List Int → α} {n : Nat} {l : List (List UInt8)} {k : Nat}
def optM (mk : List Int → α) (n : Nat) (l : List (List UInt8)) : Option (List α) := (optP n l).map fun x => x.map mk
def valsM (mk : List Int → α) (l : List (List UInt8)) (k : Nat) : List α := (l.take k).map fun w => mk (listF w).1
theorem valsM_len (l : List (List UInt8)) (k : Nat) : (valsM mk l k).length ≤ l.length := by simp [valsM]; omega
theorem valsM_step (h : k < l.length) {ns : List Int} (hx : (listF l[k]).1 = ns) : valsM mk l (k + 1) = valsM mk l k ++ [mk ns] := by unfold valsM; rw [map_take _ h, hx]
theorem optM_no (h : k < l.length) (hx : partB n l[k] = false) : optM mk n l = none := by
  unfold optM optP; rw [if_neg (by rw [Bool.not_eq_true]; exact all_no2 h hx)]; rfl
theorem optM_end (h : ¬ k < l.length) (h2 : (l.take k).all (partB n) = true) : optM mk n l = some (valsM mk l k) := by
  unfold optM optP valsM
  rw [List.take_of_length_le (by omega)] at h2 ⊢
  rw [if_pos h2]; simp
end
theorem cI_at {w : World} {base : Nat} {e : TypeId} {g n c : Nat} {l : List Int} (h : OwnR cI w base e (.slice (some ⟨g, 0, none⟩) n c) l 0) (i : Nat) (k : Nat) {x : Int} (hx : l[i]? = some x := by rfl) : w.cell? ⟨g, i, none⟩ = some (.int .i64 x) := by
  obtain ⟨h1, h2⟩ := List.getElem?_eq_some_iff.1 hx
  have := (own_cellI h h1).1
  rw [Nat.zero_add, h2] at this
  exact this
theorem part_len {n : Nat} {s : List UInt8} (h : partB n s = true) : (listF s).1.length = n := by unfold partB at h; simp only [Bool.and_eq_true, decide_eq_true_eq] at h; exact h.2
theorem partsC {s : List UInt8} {n : Nat} {b : Bool} (h : partB n s = b) (hn : 1 ≤ n ∧ n ≤ 100) (w : World) (E : EnvR w) (hs : s.length ≤ 40000) (hw : ∀ c ∈ s, c.toNat < 128) :
    Calls Tryz.prog 108 #[.string (bs s), .int .i64 n] w fun e w' => ∃ A cap l, e = .returned (.tuple #[.slice A (List.length l) cap, .bool b]) ∧ OwnR cI w' w.heap.size 3 (.slice A (List.length l) cap) l 0 ∧ Below w.heap.size w w' ∧ Hid (b = true → l = (listF s).1) := by
  subst h; exact parts_any s n hn w E hs hw
theorem word_ok {s : List UInt8} (h : wordB s = true) : s.length ≤ 40000 ∧ ∀ c ∈ s, c.toNat < 128 := by
  refine ⟨by have := wordB_len h; omega, ?_⟩
  unfold wordB at h
  simp only [Bool.and_eq_true, List.all_eq_true, decide_eq_true_eq] at h
  intro c hc
  have := h.1 c hc
  unfold chB at this
  simp at this
  omega
set_option maxRecDepth 100000 in
set_option maxHeartbeats 4000000 in
theorem stepsOf_any (l : List (List UInt8)) (A : Option Addr) (cap : Nat) (w : World) (E : EnvR w) (hr : RdS cS w (Lt w) A l) (hl : l.length ≤ 40000) (hw : ∀ x ∈ l, wordB x = true) :
    Calls Tryz.prog 86 #[.slice A l.length cap] w (OptR cStp 50 w (optS l)) := by
  obtain ⟨i0, hi0, hz0, hz1, hz2⟩ := info_parts infoStpT
  have HW := Lib.hid hw
  clear hw
  change Calls _ _ _ _ (OptR cStp 50 w (optM mkStp 3 l))
  go_enter Tryz.func86, Tryz.ntmps86
  go_wp2_with fail
  go_loopw [4, 11] (fun v i wr => ∃ k : Nat, k ≤ l.length ∧ i = .int .i64 k ∧ OwnR cStp wr w.heap.size 50 v (valsM mkStp l k) 0 ∧ Below w.heap.size w wr ∧ Hid ((l.take k).all (partB 3) = true)) (fun _ i _ => l.length - (intOf i).toNat)
  case atStart => exact ⟨0, Nat.zero_le _, rfl, OwnR.nil _ _ _ _ (Nat.zero_le _), Below.refl _ _, Lib.hid (by simp)⟩
  case round =>
    obtain ⟨k, hk, rfl, hown, hb, HK⟩ := hrel
    have hsz := hb.size
    by_cases hlt : k < l.length
    · have hki : (k : Int) < (l.length : Int) := by omega
      obtain ⟨b, off, hA, lb, hsl, y0⟩ := (hr.now hb).elS hlt
      obtain ⟨hp1, hp2⟩ := word_ok (HW.out _ (List.getElem_mem hlt))
      have hkl := valsM_len (mk := mkStp) l k
      rw [hA]
      clear hA hsl
      cases hpb : partB 3 l[k] with
      | true =>
        have HO := Lib.hid (all_take2 hlt HK.out hpb)
        have HPL := Lib.hid (part_len hpb)
        have HC := Lib.hid (partsC hpb (by omega) wr (E.now hb) hp1 hp2)
        have HT := Lib.hid fun ns hx => valsM_step (mk := mkStp) hlt (ns := ns) hx
        clear HK hpb hp1 hp2
        generalize l[k] = q at *
        generalize valsM mkStp l k = acc at *
        go_wp2_with fail
        refine HC.out.mono ?_
        rintro e w2 ⟨A6, c6, l6, rfl, hr6, hq, hl6⟩
        have hown2 := hown.now hq
        have hb2 := bel_then hb hsz hq
        have hs2 := hb2.size
        have hl6' := hl6.out (by simp)
        have HT2 := Lib.hid (HT.out _ hl6'.symm)
        have hlen := HPL.out
        rw [← hl6'] at hlen
        clear hown hb hq hl6 hl6' HT HPL HC
        match l6, hlen with
        | [n0, n1, n2], _ =>
        obtain ⟨b6, c6', h6, h6c⟩ := own_ints hr6 (by simp)
        simp only [Value.slice.injEq] at h6
        obtain ⟨rfl, _, rfl⟩ := h6
        obtain ⟨z0, hn0⟩ := own_cellI hr6 (i := 0) (by simp)
        obtain ⟨z1, hn1⟩ := own_cellI hr6 (i := 1) (by simp)
        obtain ⟨z2, hn2⟩ := own_cellI hr6 (i := 2) (by simp)
        simp only [List.getElem_cons_zero, List.getElem_cons_succ, Nat.zero_add, List.length_cons, List.length_nil] at z0 hn0 z1 hn1 z2 hn2 hr6 h6c ⊢
        have hS : ∀ w' : World, OwnR cI w' wr.heap.size 3 (.slice (some ⟨b6, 0, none⟩) 3 c6) [n0, n1, n2] 0 → (fun w' => w'.cell? ⟨b6, 0, none⟩ = some (.int .i64 n0) ∧ w'.cell? ⟨b6, 1, none⟩ = some (.int .i64 n1) ∧ w'.cell? ⟨b6, 2, none⟩ = some (.int .i64 n2) ∧ OwnR cI w' wr.heap.size 3 (.slice (some ⟨b6, 0, none⟩) 3 c6) [n0, n1, n2] 0) w' := fun w' hq => ⟨cI_at hq 0 3, cI_at hq 1 3, cI_at hq 2 3, hq⟩
        go_wp2_with fail
        refine wp_region_held_drew (S := (fun w' => w'.cell? ⟨b6, 0, none⟩ = some (.int .i64 n0) ∧ w'.cell? ⟨b6, 1, none⟩ = some (.int .i64 n1) ∧ w'.cell? ⟨b6, 2, none⟩ = some (.int .i64 n2) ∧ OwnR cI w' wr.heap.size 3 (.slice (some ⟨b6, 0, none⟩) 3 c6) [n0, n1, n2] 0)) (by kernel_rfl) (hS _ hr6.drew) (fun hHeld => ?_)
        refine tkY (i := 0) (oi := .mk _ _ _ _ _ _) (v := ?_) rfl (by kernel_rfl) (fun _ _ _ h => h) (Or.inl ⟨by rfl, ?_⟩) (by assumption) ?_
        rotate_left
        · intro W hSw; (try dsimp only at hSw); go_simp; first | done | with_reducible rfl
        try simp only [Act.put, lsa, lsz, lss]
        refine tkY (i := 1) (oi := .mk _ _ _ _ _ _) (v := ?_) rfl (by kernel_rfl) (fun _ _ _ h => h) (Or.inl ⟨by rfl, ?_⟩) (by assumption) ?_
        rotate_left
        · intro W hSw; (try dsimp only at hSw); go_simp; first | done | with_reducible rfl
        try simp only [Act.put, lsa, lsz, lss]
        refine tkY (i := 2) (oi := .mk _ _ _ _ _ _) (v := ?_) rfl (by kernel_rfl) (fun _ _ _ h => h) (Or.inl ⟨by rfl, ?_⟩) (by assumption) ?_
        rotate_left
        · intro W hSw; (try dsimp only at hSw); go_simp; first | done | with_reducible rfl
        try simp only [Act.put, lsa, lsz, lss]
        refine tkY (i := 3) (oi := .mk _ _ _ _ _ _) (v := ?_) rfl (by kernel_rfl) (fun _ _ _ h => h) (Or.inl ⟨by rfl, ?_⟩) (by assumption) ?_
        rotate_left
        · intro W hSw; (try dsimp only at hSw); go_simp; first | done | with_reducible rfl
        try simp only [Act.put, lsa, lsz, lss]
        refine tkY (i := 4) (oi := .mk _ _ _ _ _ _) (v := ?_) rfl (by kernel_rfl) (fun _ _ _ h => h) (Or.inl ⟨by rfl, ?_⟩) (by assumption) ?_
        rotate_left
        · intro W hSw; (try dsimp only at hSw); go_simp; first | done | with_reducible rfl
        try simp only [Act.put, lsa, lsz, lss]
        refine tkY (i := 5) (oi := .mk _ _ _ _ _ _) (v := ?_) rfl (by kernel_rfl) (fun _ _ _ h => h) (Or.inl ⟨by rfl, ?_⟩) (by assumption) ?_
        rotate_left
        · intro W hSw; (try dsimp only at hSw); go_simp; first | done | with_reducible rfl
        try simp only [Act.put, lsa, lsz, lss]
        refine tkY (i := 6) (oi := .mk _ _ _ _ _ _) (v := ?_) rfl (by kernel_rfl) (fun _ _ _ h => h) (Or.inl ⟨by rfl, ?_⟩) (by assumption) ?_
        rotate_left
        · intro W hSw; (try dsimp only at hSw); go_simp; first | done | with_reducible rfl
        try simp only [Act.put, lsa, lsz, lss]
        refine tkY (i := 7) (oi := .mk _ _ _ _ _ _) (v := ?_) rfl (by kernel_rfl) (fun _ _ _ h => h) (Or.inl ⟨by rfl, ?_⟩) (by assumption) ?_
        rotate_left
        · intro W hSw; (try dsimp only at hSw); go_simp; first | done | with_reducible rfl
        try simp only [Act.put, lsa, lsz, lss]
        refine tkY (i := 8) (oi := .mk _ _ _ _ _ _) (v := ?_) rfl (by kernel_rfl) (fun _ _ _ h => h) (Or.inl ⟨by rfl, ?_⟩) (by assumption) ?_
        rotate_left
        · intro W hSw; (try dsimp only at hSw); go_simp; first | done | with_reducible rfl
        try simp only [Act.put, lsa, lsz, lss]
        refine tkY (i := 9) (oi := .mk _ _ _ _ _ _) (v := ?_) rfl (by kernel_rfl) (fun _ _ _ h => h) (Or.inl ⟨by rfl, ?_⟩) (by assumption) ?_
        rotate_left
        · intro W hSw; (try dsimp only at hSw); go_simp; first | done | with_reducible rfl
        try simp only [Act.put, lsa, lsz, lss]
        refine tkY (i := 10) (oi := .mk _ _ _ _ _ _) (v := ?_) rfl (by kernel_rfl) (fun _ _ _ h => h) (Or.inl ⟨by rfl, ?_⟩) (by assumption) ?_
        rotate_left
        · intro W hSw; (try dsimp only at hSw); go_simp; first | done | with_reducible rfl
        try simp only [Act.put, lsa, lsz, lss]
        refine wpAnyH_ready (rs := [11]) (by kernel_rfl) (by simp) (AllReadyH.cons (o := .mk _ _ _ _ _ _) rfl (fun K hK => ?_) AllReadyH.nil)
        go_simp
        refine hK.out _ _ ?_ (fun hHeld => ?_)
        · exact hS _ (hr6.drew.alloc _)
        clear hK K
        try simp only [Act.put, lsa, lsz, lss]
        have hown3 := hown2.drew.alloc (.cells #[.int .i64 n0, .int .i64 n1, .int .i64 n2] 50)
        have hb3 : Below w2.heap.size w2 (w2.drew.alloc (.cells #[.int .i64 n0, .int .i64 n1, .int .i64 n2] 50)) := (Below.refl _ w2).drew.alloc (Nat.le_refl _) _
        refine wpAnyH_ready (rs := [12]) (by kernel_rfl) (by simp) (AllReadyH.cons (o := .mk _ _ _ _ _ _) rfl (fun K hK => ?_) AllReadyH.nil)
        refine step_append_r rfl _ _ 37 rfl w.heap.size 50 i0 _ 24 Tryz.underlying37 hi0 hz0 hz1 hz2 rfl (by decide) _ acc 0 rfl hown3 [.int .i64 n0, .int .i64 n1, .int .i64 n2] (mkStp [n0, n1, n2]) ⟨rfl, hn0, hn1, hn2⟩ (fun u hu => by (simp at hu; rcases hu with rfl | rfl | rfl <;> rfl)) _ rfl (blk_cells (Blk.new _ _ _ _ rfl)) (by omega) (by omega) (by simp; omega) ?_
        intro v5 w5 hown5 hold5 hf5
        refine hK.out _ _ ?_ (fun hHeld => ?_)
        · exact hS _ ((hr6.drew.alloc _).frm hf5 (by decide) (Nat.zero_le _))
        clear hK K
        try simp only [Act.put, lsa, lsz, lss]
        have hb5 : Below w.heap.size w w5 := hf5.keeps (Nat.le_refl _) (by simp; omega) (hb2.drew.alloc (by simp; omega) _)
        have hs5 := hb5.size
        refine tkY (i := 13) (oi := .mk _ _ _ _ _ _) (v := ?_) rfl (by kernel_rfl) (fun _ _ _ h => h) (Or.inl ⟨by rfl, ?_⟩) (by assumption) ?_
        rotate_left
        · intro W hSw; (try dsimp only at hSw); go_simp; first | done | with_reducible rfl
        try simp only [Act.put, lsa, lsz, lss]
        refine wpAnyH_done (by kernel_rfl) ?_ _
        go_wp2_with fail
        go_roundw
        case rel => exact ⟨k + 1, by omega, by go_num, by rw [HT2.out]; exact hown5.low cStp_flat, hb5, HO⟩
        case measure => simp [intOf]; omega
      | false =>
        have HX := Lib.hid (optM_no (mk := mkStp) hlt hpb)
        have HC := Lib.hid (partsC hpb (by omega) wr (E.now hb) hp1 hp2)
        clear HK hpb hp1 hp2
        generalize l[k] = q at *
        go_wp2_with fail
        refine HC.out.mono ?_
        rintro e w2 ⟨A6, c6, l6, rfl, hr6, hq, hl6⟩
        have hb2 := bel_then hb hsz hq
        clear hown hb hq hl6 hr6
        go_wp2_with fail
        go_ret2
        exact optR_none HX.out rfl hb2
    · have HE := Lib.hid (optM_end (mk := mkStp) hlt HK.out)
      generalize valsM mkStp l k = ns at *
      obtain ⟨A', c', rfl⟩ := hown.form
      have HO := Lib.hid hown
      clear hown HK
      go_wp2_with fail
      go_ret2
      exact optR_some HE.out rfl HO.out hb
set_option maxRecDepth 100000 in
set_option maxHeartbeats 4000000 in
theorem settingsOf_any (l : List (List UInt8)) (A : Option Addr) (cap : Nat) (w : World) (E : EnvR w) (hr : RdS cS w (Lt w) A l) (hl : l.length ≤ 40000) (hw : ∀ x ∈ l, wordB x = true) :
    Calls Tryz.prog 87 #[.slice A l.length cap] w (OptR cStg 99 w (optG l)) := by
  obtain ⟨i0, hi0, hz0, hz1, hz2⟩ := info_parts infoStgT
  have HW := Lib.hid hw
  clear hw
  change Calls _ _ _ _ (OptR cStg 99 w (optM mkStg 2 l))
  go_enter Tryz.func87, Tryz.ntmps87
  go_wp2_with fail
  go_loopw [4, 11] (fun v i wr => ∃ k : Nat, k ≤ l.length ∧ i = .int .i64 k ∧ OwnR cStg wr w.heap.size 99 v (valsM mkStg l k) 0 ∧ Below w.heap.size w wr ∧ Hid ((l.take k).all (partB 2) = true)) (fun _ i _ => l.length - (intOf i).toNat)
  case atStart => exact ⟨0, Nat.zero_le _, rfl, OwnR.nil _ _ _ _ (Nat.zero_le _), Below.refl _ _, Lib.hid (by simp)⟩
  case round =>
    obtain ⟨k, hk, rfl, hown, hb, HK⟩ := hrel
    have hsz := hb.size
    by_cases hlt : k < l.length
    · have hki : (k : Int) < (l.length : Int) := by omega
      obtain ⟨b, off, hA, lb, hsl, y0⟩ := (hr.now hb).elS hlt
      obtain ⟨hp1, hp2⟩ := word_ok (HW.out _ (List.getElem_mem hlt))
      have hkl := valsM_len (mk := mkStg) l k
      rw [hA]
      clear hA hsl
      cases hpb : partB 2 l[k] with
      | true =>
        have HO := Lib.hid (all_take2 hlt HK.out hpb)
        have HPL := Lib.hid (part_len hpb)
        have HC := Lib.hid (partsC hpb (by omega) wr (E.now hb) hp1 hp2)
        have HT := Lib.hid fun ns hx => valsM_step (mk := mkStg) hlt (ns := ns) hx
        clear HK hpb hp1 hp2
        generalize l[k] = q at *
        generalize valsM mkStg l k = acc at *
        go_wp2_with fail
        refine HC.out.mono ?_
        rintro e w2 ⟨A6, c6, l6, rfl, hr6, hq, hl6⟩
        have hown2 := hown.now hq
        have hb2 := bel_then hb hsz hq
        have hs2 := hb2.size
        have hl6' := hl6.out (by simp)
        have HT2 := Lib.hid (HT.out _ hl6'.symm)
        have hlen := HPL.out
        rw [← hl6'] at hlen
        clear hown hb hq hl6 hl6' HT HPL HC
        match l6, hlen with
        | [n0, n1], _ =>
        obtain ⟨b6, c6', h6, h6c⟩ := own_ints hr6 (by simp)
        simp only [Value.slice.injEq] at h6
        obtain ⟨rfl, _, rfl⟩ := h6
        obtain ⟨z0, hn0⟩ := own_cellI hr6 (i := 0) (by simp)
        obtain ⟨z1, hn1⟩ := own_cellI hr6 (i := 1) (by simp)
        simp only [List.getElem_cons_zero, List.getElem_cons_succ, Nat.zero_add, List.length_cons, List.length_nil] at z0 hn0 z1 hn1 hr6 h6c ⊢
        have hS : ∀ w' : World, OwnR cI w' wr.heap.size 3 (.slice (some ⟨b6, 0, none⟩) 2 c6) [n0, n1] 0 → (fun w' => w'.cell? ⟨b6, 0, none⟩ = some (.int .i64 n0) ∧ w'.cell? ⟨b6, 1, none⟩ = some (.int .i64 n1) ∧ OwnR cI w' wr.heap.size 3 (.slice (some ⟨b6, 0, none⟩) 2 c6) [n0, n1] 0) w' := fun w' hq => ⟨cI_at hq 0 2, cI_at hq 1 2, hq⟩
        go_wp2_with fail
        refine wp_region_held_drew (S := (fun w' => w'.cell? ⟨b6, 0, none⟩ = some (.int .i64 n0) ∧ w'.cell? ⟨b6, 1, none⟩ = some (.int .i64 n1) ∧ OwnR cI w' wr.heap.size 3 (.slice (some ⟨b6, 0, none⟩) 2 c6) [n0, n1] 0)) (by kernel_rfl) (hS _ hr6.drew) (fun hHeld => ?_)
        refine tkY (i := 0) (oi := .mk _ _ _ _ _ _) (v := ?_) rfl (by kernel_rfl) (fun _ _ _ h => h) (Or.inl ⟨by rfl, ?_⟩) (by assumption) ?_
        rotate_left
        · intro W hSw; (try dsimp only at hSw); go_simp; first | done | with_reducible rfl
        try simp only [Act.put, lsa, lsz, lss]
        refine tkY (i := 1) (oi := .mk _ _ _ _ _ _) (v := ?_) rfl (by kernel_rfl) (fun _ _ _ h => h) (Or.inl ⟨by rfl, ?_⟩) (by assumption) ?_
        rotate_left
        · intro W hSw; (try dsimp only at hSw); go_simp; first | done | with_reducible rfl
        try simp only [Act.put, lsa, lsz, lss]
        refine tkY (i := 2) (oi := .mk _ _ _ _ _ _) (v := ?_) rfl (by kernel_rfl) (fun _ _ _ h => h) (Or.inl ⟨by rfl, ?_⟩) (by assumption) ?_
        rotate_left
        · intro W hSw; (try dsimp only at hSw); go_simp; first | done | with_reducible rfl
        try simp only [Act.put, lsa, lsz, lss]
        refine tkY (i := 3) (oi := .mk _ _ _ _ _ _) (v := ?_) rfl (by kernel_rfl) (fun _ _ _ h => h) (Or.inl ⟨by rfl, ?_⟩) (by assumption) ?_
        rotate_left
        · intro W hSw; (try dsimp only at hSw); go_simp; first | done | with_reducible rfl
        try simp only [Act.put, lsa, lsz, lss]
        refine tkY (i := 4) (oi := .mk _ _ _ _ _ _) (v := ?_) rfl (by kernel_rfl) (fun _ _ _ h => h) (Or.inl ⟨by rfl, ?_⟩) (by assumption) ?_
        rotate_left
        · intro W hSw; (try dsimp only at hSw); go_simp; first | done | with_reducible rfl
        try simp only [Act.put, lsa, lsz, lss]
        refine tkY (i := 5) (oi := .mk _ _ _ _ _ _) (v := ?_) rfl (by kernel_rfl) (fun _ _ _ h => h) (Or.inl ⟨by rfl, ?_⟩) (by assumption) ?_
        rotate_left
        · intro W hSw; (try dsimp only at hSw); go_simp; first | done | with_reducible rfl
        try simp only [Act.put, lsa, lsz, lss]
        refine tkY (i := 6) (oi := .mk _ _ _ _ _ _) (v := ?_) rfl (by kernel_rfl) (fun _ _ _ h => h) (Or.inl ⟨by rfl, ?_⟩) (by assumption) ?_
        rotate_left
        · intro W hSw; (try dsimp only at hSw); go_simp; first | done | with_reducible rfl
        try simp only [Act.put, lsa, lsz, lss]
        refine tkY (i := 7) (oi := .mk _ _ _ _ _ _) (v := ?_) rfl (by kernel_rfl) (fun _ _ _ h => h) (Or.inl ⟨by rfl, ?_⟩) (by assumption) ?_
        rotate_left
        · intro W hSw; (try dsimp only at hSw); go_simp; first | done | with_reducible rfl
        try simp only [Act.put, lsa, lsz, lss]
        refine wpAnyH_ready (rs := [8]) (by kernel_rfl) (by simp) (AllReadyH.cons (o := .mk _ _ _ _ _ _) rfl (fun K hK => ?_) AllReadyH.nil)
        go_simp
        refine hK.out _ _ ?_ (fun hHeld => ?_)
        · exact hS _ (hr6.drew.alloc _)
        clear hK K
        try simp only [Act.put, lsa, lsz, lss]
        have hown3 := hown2.drew.alloc (.cells #[.int .i64 n0, .int .i64 n1] 99)
        have hb3 : Below w2.heap.size w2 (w2.drew.alloc (.cells #[.int .i64 n0, .int .i64 n1] 99)) := (Below.refl _ w2).drew.alloc (Nat.le_refl _) _
        refine wpAnyH_ready (rs := [9]) (by kernel_rfl) (by simp) (AllReadyH.cons (o := .mk _ _ _ _ _ _) rfl (fun K hK => ?_) AllReadyH.nil)
        refine step_append_r rfl _ _ 38 rfl w.heap.size 99 i0 _ 16 Tryz.underlying38 hi0 hz0 hz1 hz2 rfl (by decide) _ acc 0 rfl hown3 [.int .i64 n0, .int .i64 n1] (mkStg [n0, n1]) ⟨rfl, hn0, hn1⟩ (fun u hu => by (simp at hu; rcases hu with rfl | rfl <;> rfl)) _ rfl (blk_cells (Blk.new _ _ _ _ rfl)) (by omega) (by omega) (by simp; omega) ?_
        intro v5 w5 hown5 hold5 hf5
        refine hK.out _ _ ?_ (fun hHeld => ?_)
        · exact hS _ ((hr6.drew.alloc _).frm hf5 (by decide) (Nat.zero_le _))
        clear hK K
        try simp only [Act.put, lsa, lsz, lss]
        have hb5 : Below w.heap.size w w5 := hf5.keeps (Nat.le_refl _) (by simp; omega) (hb2.drew.alloc (by simp; omega) _)
        have hs5 := hb5.size
        refine tkY (i := 10) (oi := .mk _ _ _ _ _ _) (v := ?_) rfl (by kernel_rfl) (fun _ _ _ h => h) (Or.inl ⟨by rfl, ?_⟩) (by assumption) ?_
        rotate_left
        · intro W hSw; (try dsimp only at hSw); go_simp; first | done | with_reducible rfl
        try simp only [Act.put, lsa, lsz, lss]
        refine wpAnyH_done (by kernel_rfl) ?_ _
        go_wp2_with fail
        go_roundw
        case rel => exact ⟨k + 1, by omega, by go_num, by rw [HT2.out]; exact hown5.low cStg_flat, hb5, HO⟩
        case measure => simp [intOf]; omega
      | false =>
        have HX := Lib.hid (optM_no (mk := mkStg) hlt hpb)
        have HC := Lib.hid (partsC hpb (by omega) wr (E.now hb) hp1 hp2)
        clear HK hpb hp1 hp2
        generalize l[k] = q at *
        go_wp2_with fail
        refine HC.out.mono ?_
        rintro e w2 ⟨A6, c6, l6, rfl, hr6, hq, hl6⟩
        have hb2 := bel_then hb hsz hq
        clear hown hb hq hl6 hr6
        go_wp2_with fail
        go_ret2
        exact optR_none HX.out rfl hb2
    · have HE := Lib.hid (optM_end (mk := mkStg) hlt HK.out)
      generalize valsM mkStg l k = ns at *
      obtain ⟨A', c', rfl⟩ := hown.form
      have HO := Lib.hid hown
      clear hown HK
      go_wp2_with fail
      go_ret2
      exact optR_some HE.out rfl HO.out hb
set_option maxRecDepth 100000 in
set_option maxHeartbeats 4000000 in
theorem endsOf_any (l : List (List UInt8)) (A : Option Addr) (cap : Nat) (w : World) (E : EnvR w) (hr : RdS cS w (Lt w) A l) (hl : l.length ≤ 40000) (hw : ∀ x ∈ l, wordB x = true) :
    Calls Tryz.prog 88 #[.slice A l.length cap] w (OptR cEnd 107 w (optE l)) := by
  obtain ⟨i0, hi0, hz0, hz1, hz2⟩ := info_parts infoEndT
  have HW := Lib.hid hw
  clear hw
  change Calls _ _ _ _ (OptR cEnd 107 w (optM mkEnd 2 l))
  go_enter Tryz.func88, Tryz.ntmps88
  go_wp2_with fail
  go_loopw [4, 11] (fun v i wr => ∃ k : Nat, k ≤ l.length ∧ i = .int .i64 k ∧ OwnR cEnd wr w.heap.size 107 v (valsM mkEnd l k) 0 ∧ Below w.heap.size w wr ∧ Hid ((l.take k).all (partB 2) = true)) (fun _ i _ => l.length - (intOf i).toNat)
  case atStart => exact ⟨0, Nat.zero_le _, rfl, OwnR.nil _ _ _ _ (Nat.zero_le _), Below.refl _ _, Lib.hid (by simp)⟩
  case round =>
    obtain ⟨k, hk, rfl, hown, hb, HK⟩ := hrel
    have hsz := hb.size
    by_cases hlt : k < l.length
    · have hki : (k : Int) < (l.length : Int) := by omega
      obtain ⟨b, off, hA, lb, hsl, y0⟩ := (hr.now hb).elS hlt
      obtain ⟨hp1, hp2⟩ := word_ok (HW.out _ (List.getElem_mem hlt))
      have hkl := valsM_len (mk := mkEnd) l k
      rw [hA]
      clear hA hsl
      cases hpb : partB 2 l[k] with
      | true =>
        have HO := Lib.hid (all_take2 hlt HK.out hpb)
        have HPL := Lib.hid (part_len hpb)
        have HC := Lib.hid (partsC hpb (by omega) wr (E.now hb) hp1 hp2)
        have HT := Lib.hid fun ns hx => valsM_step (mk := mkEnd) hlt (ns := ns) hx
        clear HK hpb hp1 hp2
        generalize l[k] = q at *
        generalize valsM mkEnd l k = acc at *
        go_wp2_with fail
        refine HC.out.mono ?_
        rintro e w2 ⟨A6, c6, l6, rfl, hr6, hq, hl6⟩
        have hown2 := hown.now hq
        have hb2 := bel_then hb hsz hq
        have hs2 := hb2.size
        have hl6' := hl6.out (by simp)
        have HT2 := Lib.hid (HT.out _ hl6'.symm)
        have hlen := HPL.out
        rw [← hl6'] at hlen
        clear hown hb hq hl6 hl6' HT HPL HC
        match l6, hlen with
        | [n0, n1], _ =>
        obtain ⟨b6, c6', h6, h6c⟩ := own_ints hr6 (by simp)
        simp only [Value.slice.injEq] at h6
        obtain ⟨rfl, _, rfl⟩ := h6
        obtain ⟨z0, hn0⟩ := own_cellI hr6 (i := 0) (by simp)
        obtain ⟨z1, hn1⟩ := own_cellI hr6 (i := 1) (by simp)
        simp only [List.getElem_cons_zero, List.getElem_cons_succ, Nat.zero_add, List.length_cons, List.length_nil] at z0 hn0 z1 hn1 hr6 h6c ⊢
        have hS : ∀ w' : World, OwnR cI w' wr.heap.size 3 (.slice (some ⟨b6, 0, none⟩) 2 c6) [n0, n1] 0 → (fun w' => w'.cell? ⟨b6, 0, none⟩ = some (.int .i64 n0) ∧ w'.cell? ⟨b6, 1, none⟩ = some (.int .i64 n1) ∧ OwnR cI w' wr.heap.size 3 (.slice (some ⟨b6, 0, none⟩) 2 c6) [n0, n1] 0) w' := fun w' hq => ⟨cI_at hq 0 2, cI_at hq 1 2, hq⟩
        go_wp2_with fail
        refine wp_region_held_drew (S := (fun w' => w'.cell? ⟨b6, 0, none⟩ = some (.int .i64 n0) ∧ w'.cell? ⟨b6, 1, none⟩ = some (.int .i64 n1) ∧ OwnR cI w' wr.heap.size 3 (.slice (some ⟨b6, 0, none⟩) 2 c6) [n0, n1] 0)) (by kernel_rfl) (hS _ hr6.drew) (fun hHeld => ?_)
        refine tkY (i := 0) (oi := .mk _ _ _ _ _ _) (v := ?_) rfl (by kernel_rfl) (fun _ _ _ h => h) (Or.inl ⟨by rfl, ?_⟩) (by assumption) ?_
        rotate_left
        · intro W hSw; (try dsimp only at hSw); go_simp; first | done | with_reducible rfl
        try simp only [Act.put, lsa, lsz, lss]
        refine tkY (i := 1) (oi := .mk _ _ _ _ _ _) (v := ?_) rfl (by kernel_rfl) (fun _ _ _ h => h) (Or.inl ⟨by rfl, ?_⟩) (by assumption) ?_
        rotate_left
        · intro W hSw; (try dsimp only at hSw); go_simp; first | done | with_reducible rfl
        try simp only [Act.put, lsa, lsz, lss]
        refine tkY (i := 2) (oi := .mk _ _ _ _ _ _) (v := ?_) rfl (by kernel_rfl) (fun _ _ _ h => h) (Or.inl ⟨by rfl, ?_⟩) (by assumption) ?_
        rotate_left
        · intro W hSw; (try dsimp only at hSw); go_simp; first | done | with_reducible rfl
        try simp only [Act.put, lsa, lsz, lss]
        refine tkY (i := 3) (oi := .mk _ _ _ _ _ _) (v := ?_) rfl (by kernel_rfl) (fun _ _ _ h => h) (Or.inl ⟨by rfl, ?_⟩) (by assumption) ?_
        rotate_left
        · intro W hSw; (try dsimp only at hSw); go_simp; first | done | with_reducible rfl
        try simp only [Act.put, lsa, lsz, lss]
        refine tkY (i := 4) (oi := .mk _ _ _ _ _ _) (v := ?_) rfl (by kernel_rfl) (fun _ _ _ h => h) (Or.inl ⟨by rfl, ?_⟩) (by assumption) ?_
        rotate_left
        · intro W hSw; (try dsimp only at hSw); go_simp; first | done | with_reducible rfl
        try simp only [Act.put, lsa, lsz, lss]
        refine tkY (i := 5) (oi := .mk _ _ _ _ _ _) (v := ?_) rfl (by kernel_rfl) (fun _ _ _ h => h) (Or.inl ⟨by rfl, ?_⟩) (by assumption) ?_
        rotate_left
        · intro W hSw; (try dsimp only at hSw); go_simp; first | done | with_reducible rfl
        try simp only [Act.put, lsa, lsz, lss]
        refine tkY (i := 6) (oi := .mk _ _ _ _ _ _) (v := ?_) rfl (by kernel_rfl) (fun _ _ _ h => h) (Or.inl ⟨by rfl, ?_⟩) (by assumption) ?_
        rotate_left
        · intro W hSw; (try dsimp only at hSw); go_simp; first | done | with_reducible rfl
        try simp only [Act.put, lsa, lsz, lss]
        refine tkY (i := 7) (oi := .mk _ _ _ _ _ _) (v := ?_) rfl (by kernel_rfl) (fun _ _ _ h => h) (Or.inl ⟨by rfl, ?_⟩) (by assumption) ?_
        rotate_left
        · intro W hSw; (try dsimp only at hSw); go_simp; first | done | with_reducible rfl
        try simp only [Act.put, lsa, lsz, lss]
        refine wpAnyH_ready (rs := [8]) (by kernel_rfl) (by simp) (AllReadyH.cons (o := .mk _ _ _ _ _ _) rfl (fun K hK => ?_) AllReadyH.nil)
        go_simp
        refine hK.out _ _ ?_ (fun hHeld => ?_)
        · exact hS _ (hr6.drew.alloc _)
        clear hK K
        try simp only [Act.put, lsa, lsz, lss]
        have hown3 := hown2.drew.alloc (.cells #[.int .i64 n0, .int .i64 n1] 107)
        have hb3 : Below w2.heap.size w2 (w2.drew.alloc (.cells #[.int .i64 n0, .int .i64 n1] 107)) := (Below.refl _ w2).drew.alloc (Nat.le_refl _) _
        refine wpAnyH_ready (rs := [9]) (by kernel_rfl) (by simp) (AllReadyH.cons (o := .mk _ _ _ _ _ _) rfl (fun K hK => ?_) AllReadyH.nil)
        refine step_append_r rfl _ _ 39 rfl w.heap.size 107 i0 _ 16 Tryz.underlying39 hi0 hz0 hz1 hz2 rfl (by decide) _ acc 0 rfl hown3 [.int .i64 n0, .int .i64 n1] (mkEnd [n0, n1]) ⟨rfl, hn0, hn1⟩ (fun u hu => by (simp at hu; rcases hu with rfl | rfl <;> rfl)) _ rfl (blk_cells (Blk.new _ _ _ _ rfl)) (by omega) (by omega) (by simp; omega) ?_
        intro v5 w5 hown5 hold5 hf5
        refine hK.out _ _ ?_ (fun hHeld => ?_)
        · exact hS _ ((hr6.drew.alloc _).frm hf5 (by decide) (Nat.zero_le _))
        clear hK K
        try simp only [Act.put, lsa, lsz, lss]
        have hb5 : Below w.heap.size w w5 := hf5.keeps (Nat.le_refl _) (by simp; omega) (hb2.drew.alloc (by simp; omega) _)
        have hs5 := hb5.size
        refine tkY (i := 10) (oi := .mk _ _ _ _ _ _) (v := ?_) rfl (by kernel_rfl) (fun _ _ _ h => h) (Or.inl ⟨by rfl, ?_⟩) (by assumption) ?_
        rotate_left
        · intro W hSw; (try dsimp only at hSw); go_simp; first | done | with_reducible rfl
        try simp only [Act.put, lsa, lsz, lss]
        refine wpAnyH_done (by kernel_rfl) ?_ _
        go_wp2_with fail
        go_roundw
        case rel => exact ⟨k + 1, by omega, by go_num, by rw [HT2.out]; exact hown5.low cEnd_flat, hb5, HO⟩
        case measure => simp [intOf]; omega
      | false =>
        have HX := Lib.hid (optM_no (mk := mkEnd) hlt hpb)
        have HC := Lib.hid (partsC hpb (by omega) wr (E.now hb) hp1 hp2)
        clear HK hpb hp1 hp2
        generalize l[k] = q at *
        go_wp2_with fail
        refine HC.out.mono ?_
        rintro e w2 ⟨A6, c6, l6, rfl, hr6, hq, hl6⟩
        have hb2 := bel_then hb hsz hq
        clear hown hb hq hl6 hr6
        go_wp2_with fail
        go_ret2
        exact optR_none HX.out rfl hb2
    · have HE := Lib.hid (optM_end (mk := mkEnd) hlt HK.out)
      generalize valsM mkEnd l k = ns at *
      obtain ⟨A', c', rfl⟩ := hown.form
      have HO := Lib.hid hown
      clear hown HK
      go_wp2_with fail
      go_ret2
      exact optR_some HE.out rfl HO.out hb
end Go.Proofs.YtlblfblkallnhaaGreatDoor
