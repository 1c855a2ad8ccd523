/- The reference's extended: a point line. -/
import Derived.Test.YtlblfblkallnhaaGreatDoorTbRqD
namespace Go.Proofs.YtlblfblkallnhaaGreatDoor
set_option linter.unusedVariables false
set_option linter.unusedSimpArgs false
open Go.RowKit
attribute [local go_sem] bs_size bs_get bs_append bs_extract bs_toList
attribute [-go_sem] run_equalIn_agg
set_option maxRecDepth 100000 in
set_option maxHeartbeats 8000000 in
theorem rExt_point (v : TabV) (base : Nat) (N : Nat → Prop) (w : World) (hX : Xt w base N v) (ht : v.t.rts = []) (hs : v.t.pts.length ≤ 40000 ∧ v.t.homes.length ≤ 40000) (a : List (List UInt8)) (A : Option Addr) (cap : Nat) (hrb : RdS cS w (fun k => k < base) A (pointW :: a)) (hl : a.length ≤ 30000) (hw : ∀ x ∈ pointW :: a, x.length ≤ 40000) :
    Calls Tryz.prog 30 #[tvA v, .slice A (pointW :: a).length cap] w (ExtP w base N (pointT v.t a)) := by
  have hle := hX.le
  have hr : RdS cS w (Lt w) A (pointW :: a) := hrb.more fun b hb => Nat.lt_of_lt_of_le hb hle
  have HRB := Lib.hid hrb
  clear hrb
  have hbx : Blk ((w.alloc (.cells #[.slice v.A1 v.t.rts.length v.c1, .slice v.A2 v.t.pts.length v.c2, .slice v.A3 v.t.homes.length v.c3, .int .i64 v.t.nsec, .int .i64 v.t.nsig] 25)).alloc (.cells #[.slice none 0 0, .slice none 0 0, .slice none 0 0, .int .i64 0, .int .i64 0] 25)) w.heap.size 25 #[.slice v.A1 v.t.rts.length v.c1, .slice v.A2 v.t.pts.length v.c2, .slice v.A3 v.t.homes.length v.c3, .int .i64 v.t.nsec, .int .i64 v.t.nsig] := (Blk.new _ _ _ _ rfl).alloc _
  have hbz : Blk ((w.alloc (.cells #[.slice v.A1 v.t.rts.length v.c1, .slice v.A2 v.t.pts.length v.c2, .slice v.A3 v.t.homes.length v.c3, .int .i64 v.t.nsec, .int .i64 v.t.nsig] 25)).alloc (.cells #[.slice none 0 0, .slice none 0 0, .slice none 0 0, .int .i64 0, .int .i64 0] 25)) (w.heap.size + 1) 25 #[.slice none 0 0, .slice none 0 0, .slice none 0 0, .int .i64 0, .int .i64 0] := Blk.new _ _ _ _ (by simp)
  have hB0 : Below w.heap.size w ((w.alloc (.cells #[.slice v.A1 v.t.rts.length v.c1, .slice v.A2 v.t.pts.length v.c2, .slice v.A3 v.t.homes.length v.c3, .int .i64 v.t.nsec, .int .i64 v.t.nsig] 25)).alloc (.cells #[.slice none 0 0, .slice none 0 0, .slice none 0 0, .int .i64 0, .int .i64 0] 25)) := ((Below.refl _ _).alloc (Nat.le_refl _) _).alloc (by simp) _
  have hz0 : ((w.alloc (.cells #[.slice v.A1 v.t.rts.length v.c1, .slice v.A2 v.t.pts.length v.c2, .slice v.A3 v.t.homes.length v.c3, .int .i64 v.t.nsec, .int .i64 v.t.nsig] 25)).alloc (.cells #[.slice none 0 0, .slice none 0 0, .slice none 0 0, .int .i64 0, .int .i64 0] 25)).heap.size = w.heap.size + 2 := by simp
  obtain ⟨b, off, rfl, lb, -, y0⟩ := (hr.now hB0).elS (i := 0) (by simp)
  obtain ⟨r, hx⟩ : ∃ r, headsW (pointW :: a) 1 2 = r := ⟨_, rfl⟩
  have HC := Lib.hid (rHeads12 hx (some ⟨b, off, none⟩) cap ((w.alloc (.cells #[.slice v.A1 v.t.rts.length v.c1, .slice v.A2 v.t.pts.length v.c2, .slice v.A3 v.t.homes.length v.c3, .int .i64 v.t.nsec, .int .i64 v.t.nsig] 25)).alloc (.cells #[.slice none 0 0, .slice none 0 0, .slice none 0 0, .int .i64 0, .int .i64 0] 25)) (hr.now hB0) (by simp; omega) hw)
  have HLE := Lib.hid fun ns (e : r = some ns) => headsW_len (hx.trans e)
  simp only [List.getElem_cons_zero, Nat.add_zero] at y0
  unfold pointW at y0
  simp only [List.length_cons] at HC ⊢
  unfold tvA
  clear hr hw
  obtain ⟨i0, hi0, hy0, hy1, hy2⟩ := info_parts infoInt
  have HT := Lib.hid ht
  clear ht
  cases r with
  | none =>
    have HX := Lib.hid ((pointT_heads (t := v.t) (w := pointW) (a := a)).trans (by rw [hx]; try rfl))
    clear hx
    go_enter Tryz.func30, Tryz.ntmps30
    go_wp2_with fail
    refine HC.out.mono ?_
    rintro e w2 ⟨A6, c6, l6, rfl, hr6, hq, hl6⟩
    have hx2 := hbx.now hq
    have hz2 := hbz.now hq
    have hB2 := bel_then hB0 (by omega) hq
    have hX2 := hX.now hB2
    have hs2 := hq.size
    clear hbx hbz
    have x0 := hx2.cell 0
    have z0 := hz2.cell 0
    have x1 := hx2.cell 1
    have z1 := hz2.cell 1
    have x2 := hx2.cell 2
    have z2 := hz2.cell 2
    have x3 := hx2.cell 3
    have z3 := hz2.cell 3
    have x4 := hx2.cell 4
    have z4 := hz2.cell 4
    simp only [List.getElem?_toArray, List.getElem?_cons_zero, List.getElem?_cons_succ] at x0 x1 x2 x3 x4 z0 z1 z2 z3 z4
    have zf := hz2.free
    have yf := hx2.free
    have HP := Lib.hid ((⟨v, by rw [HX.out]; rfl, put5_low (hB2.mono hle) (show base ≤ w.heap.size + 1 by omega) (.slice v.A1 v.t.rts.length v.c1) (.slice v.A2 v.t.pts.length v.c2) (.slice v.A3 v.t.homes.length v.c3) (.int .i64 v.t.nsec) (.int .i64 v.t.nsig), Lib.hid (fun b cs h => h.now (put5_low hB2 (Nat.le_succ _) _ _ _ _ _)), Lib.hid fun x hx => by rw [HX.out] at hx; cases hx⟩ : ExtP w base N (pointT v.t a) (.returned (.tuple #[.agg #[.slice v.A1 v.t.rts.length v.c1, .slice v.A2 v.t.pts.length v.c2, .slice v.A3 v.t.homes.length v.c3, .int .i64 v.t.nsec, .int .i64 v.t.nsig], .bool false])) (put5 w2 (w.heap.size + 1) (.slice v.A1 v.t.rts.length v.c1) (.slice v.A2 v.t.pts.length v.c2) (.slice v.A3 v.t.homes.length v.c3) (.int .i64 v.t.nsec) (.int .i64 v.t.nsig))))
    clear hx2 hz2 hB2 hX2 hr6 hl6 hq
    go_wp2_with fail
    exact bodyPost_ret (v := .tuple #[.agg #[.slice v.A1 v.t.rts.length v.c1, .slice v.A2 v.t.pts.length v.c2, .slice v.A3 v.t.homes.length v.c3, .int .i64 v.t.nsec, .int .i64 v.t.nsig], .bool false]) (by simp [results, Tryz.results30, go_sem, z0, z1, z2, z3, z4]) rfl HP.out
  | some ns =>
    match ns, (HLE.out ns rfl).1 with
    | [n0, n1], _ =>
    have HX := Lib.hid ((pointT_heads (t := v.t) (w := pointW) (a := a)).trans (by rw [hx]; try rfl))
    clear hx
    go_enter Tryz.func30, Tryz.ntmps30
    go_wp2_with fail
    refine HC.out.mono ?_
    rintro e w2 ⟨A6, c6, l6, rfl, hr6, hq, hl6⟩
    have hx2 := hbx.now hq
    have hz2 := hbz.now hq
    have hB2 := bel_then hB0 (by omega) hq
    have hX2 := hX.now hB2
    have hs2 := hq.size
    clear hbx hbz
    obtain rfl := hl6.out _ rfl
    obtain ⟨b6, c6', h6, h6c⟩ := own_ints hr6 (by simp)
    simp only [Value.slice.injEq] at h6
    obtain ⟨rfl, _, rfl⟩ := h6
    have hn0 := (own_cellI hr6 (i := 0) (by simp)).2
    have hn1 := (own_cellI hr6 (i := 1) (by simp)).2
    simp only [List.getElem_cons_zero, List.getElem_cons_succ, List.length_cons, List.length_nil, Nat.zero_add] at hn0 hn1 hr6 h6c ⊢
    have hb6 : w.heap.size + 2 ≤ b6 := by obtain ⟨xs, hx6, _⟩ := hr6; have := own_block hx6 b6 rfl; omega
    have hgb : w.heap.size ≠ b6 := by omega
    have hgb' : b6 ≠ w.heap.size := by omega
    have hgc : w.heap.size + 1 ≠ b6 := by omega
    have hgc' : b6 ≠ w.heap.size + 1 := by omega
    have q0 := cI_at hr6 0 2
    have q1 := cI_at hr6 1 2
    have hl2 : ∀ b, (Value.slice v.A2 v.t.pts.length v.c2).ownBlock = some b → b < w.heap.size := fun b hb => ownBlock_lt hX.r2 b hb
    have hl3 : ∀ b, (Value.slice v.A3 v.t.homes.length v.c3).ownBlock = some b → b < w.heap.size := fun b hb => ownBlock_lt hX.r3 b hb
    have hne1 : ∀ b, (Value.slice (some ⟨b6, 0, none⟩) 2 c6).ownBlock = some b → (Value.slice v.A2 v.t.pts.length v.c2).ownBlock ≠ some b := fun b hb hv => by have h1 := hl2 b hv; have h2 : b6 = b := Option.some.inj hb; omega
    have hne2 : ∀ b, (Value.slice (some ⟨b6, 0, none⟩) 2 c6).ownBlock = some b → (Value.slice v.A3 v.t.homes.length v.c3).ownBlock ≠ some b := fun b hb hv => by have h1 := hl3 b hv; have h2 : b6 = b := Option.some.inj hb; omega
    have hap1 : ∀ b, (Value.slice v.A3 v.t.homes.length v.c3).ownBlock = some b → (Value.slice v.A2 v.t.pts.length v.c2).ownBlock ≠ some b := fun b hb hv => hX.ap b hv hb
    have rn_w2 := hr6.lower (show w.heap.size ≤ ((w.alloc (.cells #[.slice v.A1 v.t.rts.length v.c1, .slice v.A2 v.t.pts.length v.c2, .slice v.A3 v.t.homes.length v.c3, .int .i64 v.t.nsec, .int .i64 v.t.nsig] 25)).alloc (.cells #[.slice none 0 0, .slice none 0 0, .slice none 0 0, .int .i64 0, .int .i64 0] 25)).heap.size by rw [hz0]; omega)
    have kt_w2 : ∀ b cs, Blk w b 25 cs → Blk w2 b 25 cs := fun b cs h => h.now hB2
    have bx_w2 := hx2
    have bz_w2 := hz2
    have r2_w2 := hX2.r2
    have r3_w2 := hX2.r3
    obtain ⟨B1, S1, hB1, hS1, lo_w2⟩ := hX2.r1
    have hb_w2 := hB2.mono hle
    have le_w2 := hX2.le
    have hlt_w2 : w.heap.size + 1 < w2.heap.size := by omega
    have hS : ∀ w' : World, OwnR cI w' w.heap.size 3 (.slice (some ⟨b6, 0, none⟩) 2 c6) [n0, n1] 0 → (fun w' => w'.cell? ⟨b6, 0, none⟩ = some (.int .i64 n0) ∧ w'.cell? ⟨b6, 1, none⟩ = some (.int .i64 n1) ∧ OwnR cI w' w.heap.size 3 (.slice (some ⟨b6, 0, none⟩) 2 c6) [n0, n1] 0) w' := fun w' hq => ⟨cI_at hq 0 2, cI_at hq 1 2, hq⟩
    have hi1' := hX.i1
    have hi2' := hX.i2
    have HAP := Lib.hid hX.ap
    clear hX hX2 hx2 hz2 hB2 hr6 hq hl6 q0 q1 y0
    have x1 := bx_w2.cell 1
    simp only [List.getElem?_toArray, List.getElem?_cons_zero, List.getElem?_cons_succ] at x1
    have hlx : w.heap.size < w2.heap.size := by omega
    go_wp2_with fail
    refine wp_region_held_drew (S := (fun w' => w'.cell? ⟨b6, 0, none⟩ = some (.int .i64 n0) ∧ w'.cell? ⟨b6, 1, none⟩ = some (.int .i64 n1) ∧ OwnR cI w' w.heap.size 3 (.slice (some ⟨b6, 0, none⟩) 2 c6) [n0, n1] 0)) (by kernel_rfl) (hS _ rn_w2.drew) (fun hHeld => ?_)
    refine tkY (i := 0) (oi := .mk _ _ _ _ _ _) (v := ?_) rfl (by kernel_rfl) (fun _ _ _ h => h) (Or.inl ⟨by rfl, ?_⟩) (by assumption) ?_
    rotate_left
    · intro W hSw; (try dsimp only at hSw); go_simp; first | done | with_reducible rfl
    try simp only [Act.put, lsa, lsz, lss]
    refine tkY (i := 2) (oi := .mk _ _ _ _ _ _) (v := ?_) rfl (by kernel_rfl) (fun _ _ _ h => h) (Or.inl ⟨by rfl, ?_⟩) (by assumption) ?_
    rotate_left
    · intro W hSw; (try dsimp only at hSw); go_simp; first | done | with_reducible rfl
    try simp only [Act.put, lsa, lsz, lss]
    refine tkY (i := 3) (oi := .mk _ _ _ _ _ _) (v := ?_) rfl (by kernel_rfl) (fun _ _ _ h => h) (Or.inl ⟨by rfl, ?_⟩) (by assumption) ?_
    rotate_left
    · intro W hSw; (try dsimp only at hSw); go_simp; first | done | with_reducible rfl
    try simp only [Act.put, lsa, lsz, lss]
    refine tkY (i := 4) (oi := .mk _ _ _ _ _ _) (v := ?_) rfl (by kernel_rfl) (fun _ _ _ h => h) (Or.inl ⟨by rfl, ?_⟩) (by assumption) ?_
    rotate_left
    · intro W hSw; (try dsimp only at hSw); go_simp; first | done | with_reducible rfl
    try simp only [Act.put, lsa, lsz, lss]
    refine wpAnyH_ready (rs := [1, 5]) (by kernel_rfl) (by simp) (AllReadyH.cons (o := .mk _ _ _ _ _ _) rfl (fun K hK => ?_) (AllReadyH.cons (o := .mk _ _ _ _ _ _) rfl (fun K hK => ?_) AllReadyH.nil))
    go_simp
    refine hK.out _ _ ?_ (fun hHeld => ?_)
    · exact hS _ rn_w2.drew
    clear hK K
    try simp only [Act.put, lsa, lsz, lss]
    refine wpAnyH_ready (rs := [5]) (by kernel_rfl) (by simp) (AllReadyH.cons (o := .mk _ _ _ _ _ _) rfl (fun K hK => ?_) AllReadyH.nil)
    go_simp
    refine hK.out _ _ ?_ (fun hHeld => ?_)
    · exact hS _ (rn_w2.alloc _).drew
    clear hK K
    try simp only [Act.put, lsa, lsz, lss]
    rotate_left 1
    go_simp
    refine hK.out _ _ ?_ (fun hHeld => ?_)
    · exact hS _ (rn_w2.alloc _).drew
    clear hK K
    try simp only [Act.put, lsa, lsz, lss]
    have x9 := (bx_w2.alloc (.cells #[.int .i64 n0] 3)).cell 1
    simp only [List.getElem?_toArray, List.getElem?_cons_zero, List.getElem?_cons_succ] at x9
    refine wpAnyH_ready (rs := [1]) (by kernel_rfl) (by simp) (AllReadyH.cons (o := .mk _ _ _ _ _ _) rfl (fun K hK => ?_) AllReadyH.nil)
    go_simp
    refine hK.out _ _ ?_ (fun hHeld => ?_)
    · exact hS _ (rn_w2.alloc _).drew
    clear hK K
    try simp only [Act.put, lsa, lsz, lss]
    clear x9
    all_goals (
      refine wpAnyH_ready (rs := [6]) (by kernel_rfl) (by simp) (AllReadyH.cons (o := .mk _ _ _ _ _ _) rfl (fun K hK => ?_) AllReadyH.nil)
      refine step_append_q rfl _ _ 23 rfl base 3 i0 _ 8 Tryz.underlying23 hi0 hy0 hy1 hy2 rfl (by decide) _ _ 0 rfl (r2_w2.alloc (.cells #[.int .i64 n0] 3)).drew [.int .i64 n0] n0 ⟨rfl, hn0⟩ (fun u hu => by (simp at hu; subst hu; rfl)) ⟨_, 0, none⟩ _ rfl (fun j u hj => by (rw [own_addr]; exact blk_cells (Blk.new _ _ _ _ rfl).drew j u hj)) (Nat.le_trans hs.1 (by omega)) (by omega) (Nat.le_trans le_w2 (by simp)) ?_
      intro u1 w65 hqw6
      obtain ⟨A91, c91, rfl⟩ := hqw6.own.form
      rw [List.length_append, List.length_singleton] at hqw6 ⊢
      have rn_w65 := ((rn_w2.alloc (.cells #[.int .i64 n0] 3)).drew).apart hqw6 hne1
      have bx_w65 := hqw6.frm.blk (bx_w2.alloc (.cells #[.int .i64 n0] 3)).drew (by decide)
      have bz_w65 := hqw6.frm.blk (bz_w2.alloc (.cells #[.int .i64 n0] 3)).drew (by decide)
      have o2_w65 := hqw6.own.low cI_flat
      have o3_w65 := ((r3_w2.alloc (.cells #[.int .i64 n0] 3)).drew).apart hqw6 hap1
      have hAl : Below w2.heap.size w2 ((w2.alloc (.cells #[.int .i64 n0] 3)).drew) := ((Below.refl _ _).alloc (Nat.le_refl _) _).drew
      have lo_w65 : LowS cR w65 B1 S1 41 (.slice v.A1 v.t.rts.length v.c1) v.t.rts := lo_w2.nil_same HT.out (fun b hb => by (obtain ⟨cs, hc⟩ := lo_w2.obj b hb; have h1 := (hAl.block b (lo_w2.lt b hb).2).trans hc; exact (frm_other hqw6.frm h1 (by decide)).trans (hAl.block b (lo_w2.lt b hb).2))) (Nat.le_trans hAl.size hqw6.frm.size)
      have hb_w65 : Below base w w65 := hqw6.frm.keeps (Nat.le_refl _) (Nat.le_trans le_w2 (by simp)) ((hb_w2.alloc le_w2 _).drew)
      have hsz_w6 : w2.heap.size ≤ w65.heap.size := Nat.le_trans hAl.size hqw6.frm.size
      have hbk1 : ∀ b, (Value.slice A91 (v.t.pts.length + 1) c91).ownBlock = some b → (Value.slice v.A2 v.t.pts.length v.c2).ownBlock = some b ∨ w2.heap.size ≤ b := fun b hb => (hqw6.blk b hb).imp id fun h => Nat.le_trans hAl.size h
      have kt_w65 : ∀ b cs, Blk w b 25 cs → Blk w65 b 25 cs := fun b cs h => hqw6.frm.blk ((kt_w2 b cs h).alloc (.cells #[.int .i64 n0] 3)).drew (by decide)
      have hbl1 : ∀ b, (Value.slice A91 (v.t.pts.length + 1) c91).ownBlock = some b → b < w65.heap.size := fun b hb => ownBlock_lt hqw6.own b hb
      clear hqw6 hAl
      refine hK.out _ _ ?_ (fun hHeld => ?_)
      · exact hS _ rn_w65
      clear hK K
      try simp only [Act.put, lsa, lsz, lss]
      have c_w65 := bx_w65.cell 1
      have f_w65 := bx_w65.free 1
      simp only [List.getElem?_toArray, List.getElem?_cons_zero, List.getElem?_cons_succ] at c_w65
      refine tkY (i := 7) (oi := .mk _ _ _ _ _ _) (v := ?_) rfl (by kernel_rfl) (fun _ _ _ h => h) (Or.inl ⟨by rfl, ?_⟩) (by assumption) ?_
      rotate_left
      · intro W hSw; (try dsimp only at hSw); go_simp; first | done | with_reducible rfl
      try simp only [Act.put, lsa, lsz, lss]
      refine wpAnyH_ready (rs := [8]) (by kernel_rfl) (by simp) (AllReadyH.cons (o := .mk _ _ _ _ _ _) rfl (fun K hK => ?_) AllReadyH.nil)
      go_simp
      refine hK.out _ _ ?_ (fun hHeld => ?_)
      · exact hS _ (rn_w65.set w.heap.size 1 _ _ _ bx_w65 (by decide) (Nat.zero_le _))
      clear hK K
      try simp only [Act.put, lsa, lsz, lss]
      refine wpAnyH_done (by kernel_rfl) ?_ _
      have bx_w6 : Blk (w65.setCell ⟨w.heap.size, 1, none⟩ (.slice A91 (v.t.pts.length + 1) c91)) w.heap.size 25 #[.slice v.A1 v.t.rts.length v.c1, .slice A91 (v.t.pts.length + 1) c91, .slice v.A3 v.t.homes.length v.c3, .int .i64 v.t.nsec, .int .i64 v.t.nsig] := bx_w65.set 1 _
      have bz_w6 := bz_w65.far (p := ⟨w.heap.size, 1, none⟩) (show w.heap.size + 1 ≠ w.heap.size by omega) (.slice A91 (v.t.pts.length + 1) c91)
      have r2_w6 := o2_w65.set w.heap.size 1 (.slice A91 (v.t.pts.length + 1) c91) _ _ bx_w65 (by decide) (Nat.zero_le _)
      have r3_w6 := o3_w65.set w.heap.size 1 (.slice A91 (v.t.pts.length + 1) c91) _ _ bx_w65 (by decide) (Nat.zero_le _)
      have rn_w6 := rn_w65.set w.heap.size 1 (.slice A91 (v.t.pts.length + 1) c91) _ _ bx_w65 (by decide) (Nat.zero_le _)
      have lo_w6 := lo_w65.nil_same (w' := w65.setCell ⟨w.heap.size, 1, none⟩ (.slice A91 (v.t.pts.length + 1) c91)) HT.out (fun b hb => Below.heap_setCell _ _ _ _ (lo_w65.ne bx_w65 (by decide) b hb)) (by simp [World.setCell])
      have hb_w6 := hb_w65.setCell (p := ⟨w.heap.size, 1, none⟩) hle (.slice A91 (v.t.pts.length + 1) c91)
      have kt_w6 : ∀ b cs, Blk w b 25 cs → Blk (w65.setCell ⟨w.heap.size, 1, none⟩ (.slice A91 (v.t.pts.length + 1) c91)) b 25 cs := fun b cs h => (kt_w65 b cs h).far (p := ⟨w.heap.size, 1, none⟩) (show b ≠ w.heap.size by have := h.lt; omega) _
      have hsy_w6 : (w65.setCell ⟨w.heap.size, 1, none⟩ (.slice A91 (v.t.pts.length + 1) c91)).heap.size = w65.heap.size := by simp [World.setCell]
      clear rn_w65 bx_w65 bz_w65 o2_w65 o3_w65 lo_w65 hb_w65 c_w65 f_w65 kt_w65
      generalize w65.setCell ⟨w.heap.size, 1, none⟩ (.slice A91 (v.t.pts.length + 1) c91) = w6 at *
      have le_w6 : base ≤ w6.heap.size := by omega
      have hlt_w6 : w.heap.size + 1 < w6.heap.size := by omega
      have hsq_w6 : w6.heap.size ≤ w65.heap.size ∧ w65.heap.size ≤ w6.heap.size := by omega
      clear hsy_w6
      clear x1 hlx
      have x2 := bx_w6.cell 2
      simp only [List.getElem?_toArray, List.getElem?_cons_zero, List.getElem?_cons_succ] at x2
      have hlx : w.heap.size < w6.heap.size := by omega
      have hap2 : ∀ b, (Value.slice A91 (v.t.pts.length + 1) c91).ownBlock = some b → (Value.slice v.A3 v.t.homes.length v.c3).ownBlock ≠ some b := fun b hb hv => by (rcases hbk1 b hb with h | h; exact HAP.out b h hv; have := hl3 b hv; omega)
      go_wp2_with fail
      refine wp_region_held_drew (S := (fun w' => w'.cell? ⟨b6, 0, none⟩ = some (.int .i64 n0) ∧ w'.cell? ⟨b6, 1, none⟩ = some (.int .i64 n1) ∧ OwnR cI w' w.heap.size 3 (.slice (some ⟨b6, 0, none⟩) 2 c6) [n0, n1] 0)) (by kernel_rfl) (hS _ rn_w6.drew) (fun hHeld => ?_)
      refine tkY (i := 0) (oi := .mk _ _ _ _ _ _) (v := ?_) rfl (by kernel_rfl) (fun _ _ _ h => h) (Or.inl ⟨by rfl, ?_⟩) (by assumption) ?_
      rotate_left
      · intro W hSw; (try dsimp only at hSw); go_simp; first | done | with_reducible rfl
      try simp only [Act.put, lsa, lsz, lss]
      refine tkY (i := 2) (oi := .mk _ _ _ _ _ _) (v := ?_) rfl (by kernel_rfl) (fun _ _ _ h => h) (Or.inl ⟨by rfl, ?_⟩) (by assumption) ?_
      rotate_left
      · intro W hSw; (try dsimp only at hSw); go_simp; first | done | with_reducible rfl
      try simp only [Act.put, lsa, lsz, lss]
      refine tkY (i := 3) (oi := .mk _ _ _ _ _ _) (v := ?_) rfl (by kernel_rfl) (fun _ _ _ h => h) (Or.inl ⟨by rfl, ?_⟩) (by assumption) ?_
      rotate_left
      · intro W hSw; (try dsimp only at hSw); go_simp; first | done | with_reducible rfl
      try simp only [Act.put, lsa, lsz, lss]
      refine tkY (i := 4) (oi := .mk _ _ _ _ _ _) (v := ?_) rfl (by kernel_rfl) (fun _ _ _ h => h) (Or.inl ⟨by rfl, ?_⟩) (by assumption) ?_
      rotate_left
      · intro W hSw; (try dsimp only at hSw); go_simp; first | done | with_reducible rfl
      try simp only [Act.put, lsa, lsz, lss]
      refine wpAnyH_ready (rs := [1, 5]) (by kernel_rfl) (by simp) (AllReadyH.cons (o := .mk _ _ _ _ _ _) rfl (fun K hK => ?_) (AllReadyH.cons (o := .mk _ _ _ _ _ _) rfl (fun K hK => ?_) AllReadyH.nil))
      go_simp
      refine hK.out _ _ ?_ (fun hHeld => ?_)
      · exact hS _ rn_w6.drew
      clear hK K
      try simp only [Act.put, lsa, lsz, lss]
      refine wpAnyH_ready (rs := [5]) (by kernel_rfl) (by simp) (AllReadyH.cons (o := .mk _ _ _ _ _ _) rfl (fun K hK => ?_) AllReadyH.nil)
      go_simp
      refine hK.out _ _ ?_ (fun hHeld => ?_)
      · exact hS _ (rn_w6.alloc _).drew
      clear hK K
      try simp only [Act.put, lsa, lsz, lss]
      rotate_left 1
      go_simp
      refine hK.out _ _ ?_ (fun hHeld => ?_)
      · exact hS _ (rn_w6.alloc _).drew
      clear hK K
      try simp only [Act.put, lsa, lsz, lss]
      have x9 := (bx_w6.alloc (.cells #[.int .i64 n1] 3)).cell 2
      simp only [List.getElem?_toArray, List.getElem?_cons_zero, List.getElem?_cons_succ] at x9
      refine wpAnyH_ready (rs := [1]) (by kernel_rfl) (by simp) (AllReadyH.cons (o := .mk _ _ _ _ _ _) rfl (fun K hK => ?_) AllReadyH.nil)
      go_simp
      refine hK.out _ _ ?_ (fun hHeld => ?_)
      · exact hS _ (rn_w6.alloc _).drew
      clear hK K
      try simp only [Act.put, lsa, lsz, lss]
      clear x9
      all_goals (
        refine wpAnyH_ready (rs := [6]) (by kernel_rfl) (by simp) (AllReadyH.cons (o := .mk _ _ _ _ _ _) rfl (fun K hK => ?_) AllReadyH.nil)
        refine step_append_q rfl _ _ 23 rfl base 3 i0 _ 8 Tryz.underlying23 hi0 hy0 hy1 hy2 rfl (by decide) _ _ 0 rfl (r3_w6.alloc (.cells #[.int .i64 n1] 3)).drew [.int .i64 n1] n1 ⟨rfl, hn1⟩ (fun u hu => by (simp at hu; subst hu; rfl)) ⟨_, 0, none⟩ _ rfl (fun j u hj => by (rw [own_addr]; exact blk_cells (Blk.new _ _ _ _ rfl).drew j u hj)) (Nat.le_trans hs.2 (by omega)) (by omega) (Nat.le_trans le_w6 (by simp)) ?_
        intro u2 w85 hqw8
        obtain ⟨A92, c92, rfl⟩ := hqw8.own.form
        rw [List.length_append, List.length_singleton] at hqw8 ⊢
        have rn_w85 := ((rn_w6.alloc (.cells #[.int .i64 n1] 3)).drew).apart hqw8 hne2
        have bx_w85 := hqw8.frm.blk (bx_w6.alloc (.cells #[.int .i64 n1] 3)).drew (by decide)
        have bz_w85 := hqw8.frm.blk (bz_w6.alloc (.cells #[.int .i64 n1] 3)).drew (by decide)
        have o3_w85 := hqw8.own.low cI_flat
        have o2_w85 := ((r2_w6.alloc (.cells #[.int .i64 n1] 3)).drew).apart hqw8 hap2
        have hAl : Below w6.heap.size w6 ((w6.alloc (.cells #[.int .i64 n1] 3)).drew) := ((Below.refl _ _).alloc (Nat.le_refl _) _).drew
        have lo_w85 : LowS cR w85 B1 S1 41 (.slice v.A1 v.t.rts.length v.c1) v.t.rts := lo_w6.nil_same HT.out (fun b hb => by (obtain ⟨cs, hc⟩ := lo_w6.obj b hb; have h1 := (hAl.block b (lo_w6.lt b hb).2).trans hc; exact (frm_other hqw8.frm h1 (by decide)).trans (hAl.block b (lo_w6.lt b hb).2))) (Nat.le_trans hAl.size hqw8.frm.size)
        have hb_w85 : Below base w w85 := hqw8.frm.keeps (Nat.le_refl _) (Nat.le_trans le_w6 (by simp)) ((hb_w6.alloc le_w6 _).drew)
        have hsz_w8 : w6.heap.size ≤ w85.heap.size := Nat.le_trans hAl.size hqw8.frm.size
        have hbk2 : ∀ b, (Value.slice A92 (v.t.homes.length + 1) c92).ownBlock = some b → (Value.slice v.A3 v.t.homes.length v.c3).ownBlock = some b ∨ w6.heap.size ≤ b := fun b hb => (hqw8.blk b hb).imp id fun h => Nat.le_trans hAl.size h
        have kt_w85 : ∀ b cs, Blk w b 25 cs → Blk w85 b 25 cs := fun b cs h => hqw8.frm.blk ((kt_w6 b cs h).alloc (.cells #[.int .i64 n1] 3)).drew (by decide)
        have hbl2 : ∀ b, (Value.slice A92 (v.t.homes.length + 1) c92).ownBlock = some b → b < w85.heap.size := fun b hb => ownBlock_lt hqw8.own b hb
        clear hqw8 hAl
        refine hK.out _ _ ?_ (fun hHeld => ?_)
        · exact hS _ rn_w85
        clear hK K
        try simp only [Act.put, lsa, lsz, lss]
        have c_w85 := bx_w85.cell 2
        have f_w85 := bx_w85.free 2
        simp only [List.getElem?_toArray, List.getElem?_cons_zero, List.getElem?_cons_succ] at c_w85
        refine tkY (i := 7) (oi := .mk _ _ _ _ _ _) (v := ?_) rfl (by kernel_rfl) (fun _ _ _ h => h) (Or.inl ⟨by rfl, ?_⟩) (by assumption) ?_
        rotate_left
        · intro W hSw; (try dsimp only at hSw); go_simp; first | done | with_reducible rfl
        try simp only [Act.put, lsa, lsz, lss]
        refine wpAnyH_ready (rs := [8]) (by kernel_rfl) (by simp) (AllReadyH.cons (o := .mk _ _ _ _ _ _) rfl (fun K hK => ?_) AllReadyH.nil)
        go_simp
        refine hK.out _ _ ?_ (fun hHeld => ?_)
        · exact hS _ (rn_w85.set w.heap.size 2 _ _ _ bx_w85 (by decide) (Nat.zero_le _))
        clear hK K
        try simp only [Act.put, lsa, lsz, lss]
        refine wpAnyH_done (by kernel_rfl) ?_ _
        have bx_w8 : Blk (w85.setCell ⟨w.heap.size, 2, none⟩ (.slice A92 (v.t.homes.length + 1) c92)) w.heap.size 25 #[.slice v.A1 v.t.rts.length v.c1, .slice A91 (v.t.pts.length + 1) c91, .slice A92 (v.t.homes.length + 1) c92, .int .i64 v.t.nsec, .int .i64 v.t.nsig] := bx_w85.set 2 _
        have bz_w8 := bz_w85.far (p := ⟨w.heap.size, 2, none⟩) (show w.heap.size + 1 ≠ w.heap.size by omega) (.slice A92 (v.t.homes.length + 1) c92)
        have r2_w8 := o2_w85.set w.heap.size 2 (.slice A92 (v.t.homes.length + 1) c92) _ _ bx_w85 (by decide) (Nat.zero_le _)
        have r3_w8 := o3_w85.set w.heap.size 2 (.slice A92 (v.t.homes.length + 1) c92) _ _ bx_w85 (by decide) (Nat.zero_le _)
        have rn_w8 := rn_w85.set w.heap.size 2 (.slice A92 (v.t.homes.length + 1) c92) _ _ bx_w85 (by decide) (Nat.zero_le _)
        have lo_w8 := lo_w85.nil_same (w' := w85.setCell ⟨w.heap.size, 2, none⟩ (.slice A92 (v.t.homes.length + 1) c92)) HT.out (fun b hb => Below.heap_setCell _ _ _ _ (lo_w85.ne bx_w85 (by decide) b hb)) (by simp [World.setCell])
        have hb_w8 := hb_w85.setCell (p := ⟨w.heap.size, 2, none⟩) hle (.slice A92 (v.t.homes.length + 1) c92)
        have kt_w8 : ∀ b cs, Blk w b 25 cs → Blk (w85.setCell ⟨w.heap.size, 2, none⟩ (.slice A92 (v.t.homes.length + 1) c92)) b 25 cs := fun b cs h => (kt_w85 b cs h).far (p := ⟨w.heap.size, 2, none⟩) (show b ≠ w.heap.size by have := h.lt; omega) _
        have hsy_w8 : (w85.setCell ⟨w.heap.size, 2, none⟩ (.slice A92 (v.t.homes.length + 1) c92)).heap.size = w85.heap.size := by simp [World.setCell]
        clear rn_w85 bx_w85 bz_w85 o2_w85 o3_w85 lo_w85 hb_w85 c_w85 f_w85 kt_w85
        generalize w85.setCell ⟨w.heap.size, 2, none⟩ (.slice A92 (v.t.homes.length + 1) c92) = w8 at *
        have le_w8 : base ≤ w8.heap.size := by omega
        have hlt_w8 : w.heap.size + 1 < w8.heap.size := by omega
        have hsq_w8 : w8.heap.size ≤ w85.heap.size ∧ w85.heap.size ≤ w8.heap.size := by omega
        clear hsy_w8
        have hapf : ∀ b, (Value.slice A91 (v.t.pts.length + 1) c91).ownBlock = some b → (Value.slice A92 (v.t.homes.length + 1) c92).ownBlock ≠ some b := fun b hb hv => by (have h9 := hbl1 b hb; rcases hbk2 b hv with h | h; exact hap2 b hb h; omega)
        clear x2 hlx
        have hfar : ∀ b, b ≠ w.heap.size + 1 → (put5 w8 (w.heap.size + 1) (.slice v.A1 v.t.rts.length v.c1) (.slice A91 (v.t.pts.length + 1) c91) (.slice A92 (v.t.homes.length + 1) c92) (.int .i64 v.t.nsec) (.int .i64 v.t.nsig)).heap[b]? = w8.heap[b]? := fun b hb => put5_far _ _ _ _ _ _ _ _ hb
        have hXV : Xt (put5 w8 (w.heap.size + 1) (.slice v.A1 v.t.rts.length v.c1) (.slice A91 (v.t.pts.length + 1) c91) (.slice A92 (v.t.homes.length + 1) c92) (.int .i64 v.t.nsec) (.int .i64 v.t.nsig)) base N { v with t := { v.t with pts := v.t.pts ++ [n0], homes := v.t.homes ++ [n1] }, A2 := A91, c2 := c91, A3 := A92, c3 := c92 } := by
          refine ⟨⟨B1, S1, hB1, hS1, lo_w8.nil_same HT.out (fun b hb => hfar b (lo_w8.ne bz_w8 (by decide) b hb)) (by rw [put5_size]; exact Nat.le_refl _)⟩, ?_, ?_, ?_, hi1', hi2', by rw [put5_size]; exact le_w8⟩
          · have h := r2_w8.same0 fun b hb => hfar b (r2_w8.ne bz_w8 (by decide) b hb)
            simpa only [List.length_append, List.length_singleton] using h
          · have h := r3_w8.same0 fun b hb => hfar b (r3_w8.ne bz_w8 (by decide) b hb)
            simpa only [List.length_append, List.length_singleton] using h
          · intro b hb hv
            simp only [List.length_append, List.length_singleton] at hb hv
            exact hapf b hb hv
        have hfl : (v.t.pts ++ [n0]).length = v.t.pts.length + 1 ∧ (v.t.homes ++ [n1]).length = v.t.homes.length + 1 := by simp
        have HTV : Hid (tvA { v with t := { v.t with pts := v.t.pts ++ [n0], homes := v.t.homes ++ [n1] }, A2 := A91, c2 := c91, A3 := A92, c3 := c92 } = .agg #[.slice v.A1 v.t.rts.length v.c1, .slice A91 (v.t.pts.length + 1) c91, .slice A92 (v.t.homes.length + 1) c92, .int .i64 v.t.nsec, .int .i64 v.t.nsig]) := Lib.hid (by unfold tvA; simp only [List.length_append, List.length_singleton])
        have x0 := bx_w8.cell 0
        have z0 := bz_w8.cell 0
        have x1 := bx_w8.cell 1
        have z1 := bz_w8.cell 1
        have x2 := bx_w8.cell 2
        have z2 := bz_w8.cell 2
        have x3 := bx_w8.cell 3
        have z3 := bz_w8.cell 3
        have x4 := bx_w8.cell 4
        have z4 := bz_w8.cell 4
        simp only [List.getElem?_toArray, List.getElem?_cons_zero, List.getElem?_cons_succ] at x0 x1 x2 x3 x4 z0 z1 z2 z3 z4
        have zf := bz_w8.free
        have yf := bx_w8.free
        have HP := Lib.hid ((⟨{ v with t := { v.t with pts := v.t.pts ++ [n0], homes := v.t.homes ++ [n1] }, A2 := A91, c2 := c91, A3 := A92, c3 := c92 }, by rw [HTV.out, HX.out]; rfl, put5_low hb_w8 (show base ≤ w.heap.size + 1 by omega) (.slice v.A1 v.t.rts.length v.c1) (.slice A91 (v.t.pts.length + 1) c91) (.slice A92 (v.t.homes.length + 1) c92) (.int .i64 v.t.nsec) (.int .i64 v.t.nsig), Lib.hid (fun b cs h => (hfar b (by have := h.lt; omega)).trans (kt_w8 b cs h)), Lib.hid fun x hx => by rw [HX.out] at hx; cases hx; exact ⟨rfl, hXV⟩⟩ : ExtP w base N (pointT v.t a) (.returned (.tuple #[.agg #[.slice v.A1 v.t.rts.length v.c1, .slice A91 (v.t.pts.length + 1) c91, .slice A92 (v.t.homes.length + 1) c92, .int .i64 v.t.nsec, .int .i64 v.t.nsig], .bool true])) (put5 w8 (w.heap.size + 1) (.slice v.A1 v.t.rts.length v.c1) (.slice A91 (v.t.pts.length + 1) c91) (.slice A92 (v.t.homes.length + 1) c92) (.int .i64 v.t.nsec) (.int .i64 v.t.nsig))))
        clear kt_w2 kt_w6 kt_w8 hXV bx_w8 bz_w8 r2_w8 r3_w8 rn_w8 lo_w8 hb_w8 hfar hfl hapf hbk1 hbk2 hbl1 hbl2 hap2 hap1 hne1 hne2 hS lo_w2 lo_w6 bx_w2 bz_w2 bx_w6 bz_w6 r2_w2 r3_w2 r2_w6 r3_w6 rn_w2 rn_w6 hb_w2 hb_w6 HC
        go_wp2_with fail
        exact bodyPost_ret (v := .tuple #[.agg #[.slice v.A1 v.t.rts.length v.c1, .slice A91 (v.t.pts.length + 1) c91, .slice A92 (v.t.homes.length + 1) c92, .int .i64 v.t.nsec, .int .i64 v.t.nsig], .bool true]) (by simp [results, Tryz.results30, go_sem, z0, z1, z2, z3, z4]) rfl HP.out))
end Go.Proofs.YtlblfblkallnhaaGreatDoor
