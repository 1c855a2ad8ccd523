/- The reference's extended: a route line. -/
import Derived.Test.YtlblfblkallnhaaGreatDoorTbRqD
namespace Go.Proofs.YtlblfblkallnhaaGreatDoor
set_option linter.unusedVariables false
set_option linter.unusedSimpArgs false
open Go.RowKit
attribute [local go_sem] bs_size bs_get bs_append bs_extract bs_toList
attribute [-go_sem] run_equalIn_agg
set_option maxRecDepth 100000 in
set_option maxHeartbeats 8000000 in
theorem rExt_route (v : TabV) (base : Nat) (N : Nat → Prop) (w : World) (hX : Xt w base N v) (hs : v.t.rts.length ≤ 40000) (a : List (List UInt8)) (A : Option Addr) (cap : Nat) (hrb : RdS cS w (fun k => k < base) A (routeW :: a)) (hl : a.length ≤ 30000) (hw : ∀ x ∈ routeW :: a, x.length ≤ 40000) :
    Calls Tryz.prog 30 #[tvA v, .slice A (routeW :: a).length cap] w (ExtP w base N (routeT v.t a)) := by
  have hle := hX.le
  have hr : RdS cS w (Lt w) A (routeW :: a) := hrb.more fun b hb => Nat.lt_of_lt_of_le hb hle
  have HRB := Lib.hid hrb
  clear hrb
  have hbx : Blk ((w.alloc (.cells #[.slice v.A1 v.t.rts.length v.c1, .slice v.A2 v.t.pts.length v.c2, .slice v.A3 v.t.homes.length v.c3, .int .i64 v.t.nsec, .int .i64 v.t.nsig] 25)).alloc (.cells #[.slice none 0 0, .slice none 0 0, .slice none 0 0, .int .i64 0, .int .i64 0] 25)) w.heap.size 25 #[.slice v.A1 v.t.rts.length v.c1, .slice v.A2 v.t.pts.length v.c2, .slice v.A3 v.t.homes.length v.c3, .int .i64 v.t.nsec, .int .i64 v.t.nsig] := (Blk.new _ _ _ _ rfl).alloc _
  have hbz : Blk ((w.alloc (.cells #[.slice v.A1 v.t.rts.length v.c1, .slice v.A2 v.t.pts.length v.c2, .slice v.A3 v.t.homes.length v.c3, .int .i64 v.t.nsec, .int .i64 v.t.nsig] 25)).alloc (.cells #[.slice none 0 0, .slice none 0 0, .slice none 0 0, .int .i64 0, .int .i64 0] 25)) (w.heap.size + 1) 25 #[.slice none 0 0, .slice none 0 0, .slice none 0 0, .int .i64 0, .int .i64 0] := Blk.new _ _ _ _ (by simp)
  have hB0 : Below w.heap.size w ((w.alloc (.cells #[.slice v.A1 v.t.rts.length v.c1, .slice v.A2 v.t.pts.length v.c2, .slice v.A3 v.t.homes.length v.c3, .int .i64 v.t.nsec, .int .i64 v.t.nsig] 25)).alloc (.cells #[.slice none 0 0, .slice none 0 0, .slice none 0 0, .int .i64 0, .int .i64 0] 25)) := ((Below.refl _ _).alloc (Nat.le_refl _) _).alloc (by simp) _
  have hz0 : ((w.alloc (.cells #[.slice v.A1 v.t.rts.length v.c1, .slice v.A2 v.t.pts.length v.c2, .slice v.A3 v.t.homes.length v.c3, .int .i64 v.t.nsec, .int .i64 v.t.nsig] 25)).alloc (.cells #[.slice none 0 0, .slice none 0 0, .slice none 0 0, .int .i64 0, .int .i64 0] 25)).heap.size = w.heap.size + 2 := by simp
  obtain ⟨b, off, rfl, lb, -, y0⟩ := (hr.now hB0).elS (i := 0) (by simp)
  obtain ⟨r, hx⟩ : ∃ r, headsW (routeW :: a) 2 4 = r := ⟨_, rfl⟩
  have HC := Lib.hid (rHeads24 hx (some ⟨b, off, none⟩) cap ((w.alloc (.cells #[.slice v.A1 v.t.rts.length v.c1, .slice v.A2 v.t.pts.length v.c2, .slice v.A3 v.t.homes.length v.c3, .int .i64 v.t.nsec, .int .i64 v.t.nsig] 25)).alloc (.cells #[.slice none 0 0, .slice none 0 0, .slice none 0 0, .int .i64 0, .int .i64 0] 25)) (hr.now hB0) (by simp; omega) hw)
  have HLE := Lib.hid fun ns (e : r = some ns) => headsW_len (hx.trans e)
  simp only [List.getElem_cons_zero, Nat.add_zero] at y0
  unfold routeW at y0
  simp only [List.length_cons] at HC ⊢
  unfold tvA
  clear hr hw
  obtain ⟨i0, hi0, hy0, hy1, hy2⟩ := info_parts infoRouT
  cases r with
  | none =>
    have HX := Lib.hid ((routeT_heads (t := v.t) (w := routeW) (a := a)).trans (by rw [hx]; try rfl))
    clear hx
    go_enter Tryz.func30, Tryz.ntmps30
    go_wp2_with fail
    refine HC.out.mono ?_
    rintro e w2 ⟨A6, c6, l6, rfl, hr6, hq, hl6⟩
    have hx2 := hbx.now hq
    have hz2 := hbz.now hq
    have hB2 := bel_then hB0 (by omega) hq
    have hX2 := hX.now hB2
    have hs2 := hq.size
    clear hbx hbz
    have x0 := hx2.cell 0
    have z0 := hz2.cell 0
    have x1 := hx2.cell 1
    have z1 := hz2.cell 1
    have x2 := hx2.cell 2
    have z2 := hz2.cell 2
    have x3 := hx2.cell 3
    have z3 := hz2.cell 3
    have x4 := hx2.cell 4
    have z4 := hz2.cell 4
    simp only [List.getElem?_toArray, List.getElem?_cons_zero, List.getElem?_cons_succ] at x0 x1 x2 x3 x4 z0 z1 z2 z3 z4
    have zf := hz2.free
    have yf := hx2.free
    have HP := Lib.hid ((⟨v, by rw [HX.out]; rfl, put5_low (hB2.mono hle) (show base ≤ w.heap.size + 1 by omega) (.slice v.A1 v.t.rts.length v.c1) (.slice v.A2 v.t.pts.length v.c2) (.slice v.A3 v.t.homes.length v.c3) (.int .i64 v.t.nsec) (.int .i64 v.t.nsig), Lib.hid (fun b cs h => h.now (put5_low hB2 (Nat.le_succ _) _ _ _ _ _)), Lib.hid fun x hx => by rw [HX.out] at hx; cases hx⟩ : ExtP w base N (routeT v.t a) (.returned (.tuple #[.agg #[.slice v.A1 v.t.rts.length v.c1, .slice v.A2 v.t.pts.length v.c2, .slice v.A3 v.t.homes.length v.c3, .int .i64 v.t.nsec, .int .i64 v.t.nsig], .bool false])) (put5 w2 (w.heap.size + 1) (.slice v.A1 v.t.rts.length v.c1) (.slice v.A2 v.t.pts.length v.c2) (.slice v.A3 v.t.homes.length v.c3) (.int .i64 v.t.nsec) (.int .i64 v.t.nsig))))
    clear hx2 hz2 hB2 hX2 hr6 hl6 hq
    go_wp2_with fail
    exact bodyPost_ret (v := .tuple #[.agg #[.slice v.A1 v.t.rts.length v.c1, .slice v.A2 v.t.pts.length v.c2, .slice v.A3 v.t.homes.length v.c3, .int .i64 v.t.nsec, .int .i64 v.t.nsig], .bool false]) (by simp [results, Tryz.results30, go_sem, z0, z1, z2, z3, z4]) rfl HP.out
  | some ns =>
    have hal : ∃ nm rest, a = nm :: rest ∧ List.length rest = 4 := by
      have h6 := (HLE.out ns rfl).2
      rw [List.length_cons] at h6
      cases a with
      | nil => exact absurd h6 (by decide)
      | cons nm rest => rw [List.length_cons] at h6; exact ⟨nm, rest, rfl, by omega⟩
    obtain ⟨nm, rest, rfl, hr4⟩ := hal
    have hcl : (1 : Int) < (rest.length : Int) + 1 + 1 := by omega
    clear hr4
    simp only [List.length_cons] at HC ⊢
    match ns, (HLE.out ns rfl).1 with
    | [n0, n1, n2, n3], _ =>
    have HX := Lib.hid ((routeT_heads (t := v.t) (w := routeW) (a := nm :: rest)).trans (by rw [hx]; try rfl))
    clear hx
    go_enter Tryz.func30, Tryz.ntmps30
    go_wp2_with fail
    refine HC.out.mono ?_
    rintro e w2 ⟨A6, c6, l6, rfl, hr6, hq, hl6⟩
    have hx2 := hbx.now hq
    have hz2 := hbz.now hq
    have hB2 := bel_then hB0 (by omega) hq
    have hX2 := hX.now hB2
    have hs2 := hq.size
    clear hbx hbz
    obtain rfl := hl6.out _ rfl
    obtain ⟨b6, c6', h6, h6c⟩ := own_ints hr6 (by simp)
    simp only [Value.slice.injEq] at h6
    obtain ⟨rfl, _, rfl⟩ := h6
    have hn0 := (own_cellI hr6 (i := 0) (by simp)).2
    have hn1 := (own_cellI hr6 (i := 1) (by simp)).2
    have hn2 := (own_cellI hr6 (i := 2) (by simp)).2
    have hn3 := (own_cellI hr6 (i := 3) (by simp)).2
    simp only [List.getElem_cons_zero, List.getElem_cons_succ, List.length_cons, List.length_nil, Nat.zero_add] at hn0 hn1 hn2 hn3 hr6 h6c ⊢
    have hb6 : w.heap.size + 2 ≤ b6 := by obtain ⟨xs, hx6, _⟩ := hr6; have := own_block hx6 b6 rfl; omega
    have hgb : w.heap.size ≠ b6 := by omega
    have hgb' : b6 ≠ w.heap.size := by omega
    have hgc : w.heap.size + 1 ≠ b6 := by omega
    have hgc' : b6 ≠ w.heap.size + 1 := by omega
    have q0 := cI_at hr6 0 2
    have q1 := cI_at hr6 1 2
    have q2 := cI_at hr6 2 2
    have q3 := cI_at hr6 3 2
    obtain ⟨b1, off1, hA1, lb1, hnm, y1⟩ := HRB.out.elS (i := 1) (by simp)
    obtain ⟨rfl, rfl⟩ : b = b1 ∧ off = off1 := by simp only [Option.some.injEq, Addr.mk.injEq] at hA1; exact ⟨hA1.1, hA1.2.1⟩
    clear hA1
    simp only [List.getElem_cons_succ, List.getElem_cons_zero] at y1 hnm
    have rn_w2 := hr6.lower (show w.heap.size ≤ ((w.alloc (.cells #[.slice v.A1 v.t.rts.length v.c1, .slice v.A2 v.t.pts.length v.c2, .slice v.A3 v.t.homes.length v.c3, .int .i64 v.t.nsec, .int .i64 v.t.nsig] 25)).alloc (.cells #[.slice none 0 0, .slice none 0 0, .slice none 0 0, .int .i64 0, .int .i64 0] 25)).heap.size by rw [hz0]; omega)
    obtain ⟨B1, S1, hB1, hS1, lo0⟩ := hX.r1
    have hBw := lo0.ble
    have lo_w2 := lo0.same (fun b hb => hB2.block b (lo0.lt b hb).2) (fun b hb => hB2.block b (by have := (hS1 b hb).1; omega)) hB2.size
    clear lo0
    have kt_2 : ∀ b cs, Blk w b 25 cs → Blk w2 b 25 cs := fun b cs h => h.now hB2
    have hb_w2 := hB2.mono hle
    have le_w2 := hX2.le
    have hlx : w.heap.size < w2.heap.size := by omega
    have hS : ∀ w' : World, OwnR cI w' w.heap.size 3 (.slice (some ⟨b6, 0, none⟩) 4 c6) [n0, n1, n2, n3] 0 → Below base w w' → (fun w' => w'.cell? ⟨b6, 0, none⟩ = some (.int .i64 n0) ∧ w'.cell? ⟨b6, 1, none⟩ = some (.int .i64 n1) ∧ w'.cell? ⟨b6, 2, none⟩ = some (.int .i64 n2) ∧ w'.cell? ⟨b6, 3, none⟩ = some (.int .i64 n3) ∧ w'.cell? ⟨b, off + 1, none⟩ = some (.string (bs nm)) ∧ (OwnR cI w' w.heap.size 3 (.slice (some ⟨b6, 0, none⟩) 4 c6) [n0, n1, n2, n3] 0 ∧ Below base w w')) w' := fun w' hq hb => ⟨cI_at hq 0 4, cI_at hq 1 4, cI_at hq 2 4, cI_at hq 3 4, (hb.cell (p := ⟨b, off + 1, none⟩) lb1).trans y1, hq, hb⟩
    have hrv : ∀ W, RvR W S1 (⟨{ zR with name := nm, ent := n0, ext := n1, app := n2, len := n3 }, none, none, none, none, none, none, none, none, none, 0, 0, 0, 0, 0, 0, 0, 0, 0⟩ : RouV) := fun W => ⟨⟨hnm, hn0, hn1, hn2, hn3, by simp [zR], by simp [zR], by simp [zR], by simp [zR], by simp [zR], by simp [zR], by simp [zR], by simp [zR], by simp [zR]⟩, RdS.nil _ _ _ _, RdS.nil _ _ _ _, RdS.nil _ _ _ _, RdS.nil _ _ _ _, RdS.nil _ _ _ _, RdS.nil _ _ _ _, RdS.nil _ _ _ _, RdS.nil _ _ _ _, RdS.nil _ _ _ _⟩
    have HRD : Hid (∀ W, RdC cR W S1 [.string (bs nm), .int .i64 n0, .int .i64 n1, .slice none 0 0, .slice none 0 0, .slice none 0 0, .int .i64 n2, .int .i64 n3, .slice none 0 0, .slice none 0 0, .slice none 0 0, .slice none 0 0, .slice none 0 0, .slice none 0 0] [{ zR with name := nm, ent := n0, ext := n1, app := n2, len := n3 }]) := Lib.hid fun W => ⟨[.string (bs nm), .int .i64 n0, .int .i64 n1, .slice none 0 0, .slice none 0 0, .slice none 0 0, .int .i64 n2, .int .i64 n3, .slice none 0 0, .slice none 0 0, .slice none 0 0, .slice none 0 0, .slice none 0 0, .slice none 0 0], [], rfl, ⟨(⟨{ zR with name := nm, ent := n0, ext := n1, app := n2, len := n3 }, none, none, none, none, none, none, none, none, none, 0, 0, 0, 0, 0, 0, 0, 0, 0⟩ : RouV), rfl, rfl, hrv W⟩, rfl⟩
    have hX2r2 := hX2.r2
    have hX2r3 := hX2.r3
    have HAP := Lib.hid hX2.ap
    have hi1' := hX2.i1
    have hi2' := hX2.i2
    clear hX hX2 hr6 hq hl6 q0 q1 q2 q3 y0 y1 hrv hB2 HLE
    have x0 := hx2.cell 0
    simp only [List.getElem?_toArray, List.getElem?_cons_zero, List.getElem?_cons_succ] at x0
    go_wp2_with fail
    refine wp_region_held_drew (S := (fun w' => w'.cell? ⟨b6, 0, none⟩ = some (.int .i64 n0) ∧ w'.cell? ⟨b6, 1, none⟩ = some (.int .i64 n1) ∧ w'.cell? ⟨b6, 2, none⟩ = some (.int .i64 n2) ∧ w'.cell? ⟨b6, 3, none⟩ = some (.int .i64 n3) ∧ w'.cell? ⟨b, off + 1, none⟩ = some (.string (bs nm)) ∧ (OwnR cI w' w.heap.size 3 (.slice (some ⟨b6, 0, none⟩) 4 c6) [n0, n1, n2, n3] 0 ∧ Below base w w'))) (by kernel_rfl) (hS _ rn_w2.drew hb_w2.drew) (fun hHeld => ?_)
    refine tkY (i := 0) (oi := .mk _ _ _ _ _ _) (v := ?_) rfl (by kernel_rfl) (fun _ _ _ h => h) (Or.inl ⟨by rfl, ?_⟩) (by assumption) ?_
    rotate_left
    · intro W hSw; (try dsimp only at hSw); go_simp; first | done | with_reducible rfl
    try simp only [Act.put, lsa, lsz, lss]
    refine tkY (i := 2) (oi := .mk _ _ _ _ _ _) (v := ?_) rfl (by kernel_rfl) (fun _ _ _ h => h) (Or.inl ⟨by rfl, ?_⟩) (by assumption) ?_
    rotate_left
    · intro W hSw; (try dsimp only at hSw); go_simp; first | done | with_reducible rfl
    try simp only [Act.put, lsa, lsz, lss]
    refine tkY (i := 3) (oi := .mk _ _ _ _ _ _) (v := ?_) rfl (by kernel_rfl) (fun _ _ _ h => h) (Or.inl ⟨by rfl, ?_⟩) (by assumption) ?_
    rotate_left
    · intro W hSw; (try dsimp only at hSw); go_simp; first | done | with_reducible rfl
    try simp only [Act.put, lsa, lsz, lss]
    refine tkY (i := 4) (oi := .mk _ _ _ _ _ _) (v := ?_) rfl (by kernel_rfl) (fun _ _ _ h => h) (Or.inl ⟨by rfl, ?_⟩) (by assumption) ?_
    rotate_left
    · intro W hSw; (try dsimp only at hSw); go_simp; first | done | with_reducible rfl
    try simp only [Act.put, lsa, lsz, lss]
    refine tkY (i := 5) (oi := .mk _ _ _ _ _ _) (v := ?_) rfl (by kernel_rfl) (fun _ _ _ h => h) (Or.inl ⟨by rfl, ?_⟩) (by assumption) ?_
    rotate_left
    · intro W hSw; (try dsimp only at hSw); go_simp; first | done | with_reducible rfl
    try simp only [Act.put, lsa, lsz, lss]
    refine tkY (i := 6) (oi := .mk _ _ _ _ _ _) (v := ?_) rfl (by kernel_rfl) (fun _ _ _ h => h) (Or.inl ⟨by rfl, ?_⟩) (by assumption) ?_
    rotate_left
    · intro W hSw; (try dsimp only at hSw); go_simp; first | done | with_reducible rfl
    try simp only [Act.put, lsa, lsz, lss]
    refine tkY (i := 7) (oi := .mk _ _ _ _ _ _) (v := ?_) rfl (by kernel_rfl) (fun _ _ _ h => h) (Or.inl ⟨by rfl, ?_⟩) (by assumption) ?_
    rotate_left
    · intro W hSw; (try dsimp only at hSw); go_simp; first | done | with_reducible rfl
    try simp only [Act.put, lsa, lsz, lss]
    refine tkY (i := 8) (oi := .mk _ _ _ _ _ _) (v := ?_) rfl (by kernel_rfl) (fun _ _ _ h => h) (Or.inl ⟨by rfl, ?_⟩) (by assumption) ?_
    rotate_left
    · intro W hSw; (try dsimp only at hSw); go_simp; first | done | with_reducible rfl
    try simp only [Act.put, lsa, lsz, lss]
    refine tkY (i := 9) (oi := .mk _ _ _ _ _ _) (v := ?_) rfl (by kernel_rfl) (fun _ _ _ h => h) (Or.inl ⟨by rfl, ?_⟩) (by assumption) ?_
    rotate_left
    · intro W hSw; (try dsimp only at hSw); go_simp; first | done | with_reducible rfl
    try simp only [Act.put, lsa, lsz, lss]
    refine tkY (i := 10) (oi := .mk _ _ _ _ _ _) (v := ?_) rfl (by kernel_rfl) (fun _ _ _ h => h) (Or.inl ⟨by rfl, ?_⟩) (by assumption) ?_
    rotate_left
    · intro W hSw; (try dsimp only at hSw); go_simp; first | done | with_reducible rfl
    try simp only [Act.put, lsa, lsz, lss]
    refine tkY (i := 11) (oi := .mk _ _ _ _ _ _) (v := ?_) rfl (by kernel_rfl) (fun _ _ _ h => h) (Or.inl ⟨by rfl, ?_⟩) (by assumption) ?_
    rotate_left
    · intro W hSw; (try dsimp only at hSw); go_simp; first | done | with_reducible rfl
    try simp only [Act.put, lsa, lsz, lss]
    refine tkY (i := 12) (oi := .mk _ _ _ _ _ _) (v := ?_) rfl (by kernel_rfl) (fun _ _ _ h => h) (Or.inl ⟨by rfl, ?_⟩) (by assumption) ?_
    rotate_left
    · intro W hSw; (try dsimp only at hSw); go_simp; first | done | with_reducible rfl
    try simp only [Act.put, lsa, lsz, lss]
    refine tkY (i := 13) (oi := .mk _ _ _ _ _ _) (v := ?_) rfl (by kernel_rfl) (fun _ _ _ h => h) (Or.inl ⟨by rfl, ?_⟩) (by assumption) ?_
    rotate_left
    · intro W hSw; (try dsimp only at hSw); go_simp; first | done | with_reducible rfl
    try simp only [Act.put, lsa, lsz, lss]
    refine tkY (i := 14) (oi := .mk _ _ _ _ _ _) (v := ?_) rfl (by kernel_rfl) (fun _ _ _ h => h) (Or.inl ⟨by rfl, ?_⟩) (by assumption) ?_
    rotate_left
    · intro W hSw; (try dsimp only at hSw); go_simp; first | done | with_reducible rfl
    try simp only [Act.put, lsa, lsz, lss]
    refine tkY (i := 15) (oi := .mk _ _ _ _ _ _) (v := ?_) rfl (by kernel_rfl) (fun _ _ _ h => h) (Or.inl ⟨by rfl, ?_⟩) (by assumption) ?_
    rotate_left
    · intro W hSw; (try dsimp only at hSw); go_simp; first | done | with_reducible rfl
    try simp only [Act.put, lsa, lsz, lss]
    refine tkY (i := 16) (oi := .mk _ _ _ _ _ _) (v := ?_) rfl (by kernel_rfl) (fun _ _ _ h => h) (Or.inl ⟨by rfl, ?_⟩) (by assumption) ?_
    rotate_left
    · intro W hSw; (try dsimp only at hSw); go_simp; first | done | with_reducible rfl
    try simp only [Act.put, lsa, lsz, lss]
    refine tkY (i := 17) (oi := .mk _ _ _ _ _ _) (v := ?_) rfl (by kernel_rfl) (fun _ _ _ h => h) (Or.inl ⟨by rfl, ?_⟩) (by assumption) ?_
    rotate_left
    · intro W hSw; (try dsimp only at hSw); go_simp; first | done | with_reducible rfl
    try simp only [Act.put, lsa, lsz, lss]
    refine wpAnyH_ready (rs := [1, 18]) (by kernel_rfl) (by simp) (AllReadyH.cons (o := .mk _ _ _ _ _ _) rfl (fun K hK => ?_) (AllReadyH.cons (o := .mk _ _ _ _ _ _) rfl (fun K hK => ?_) AllReadyH.nil))
    go_simp
    refine hK.out _ _ ?_ (fun hHeld => ?_)
    · exact hS _ rn_w2.drew hb_w2.drew
    clear hK K
    try simp only [Act.put, lsa, lsz, lss]
    refine wpAnyH_ready (rs := [18]) (by kernel_rfl) (by simp) (AllReadyH.cons (o := .mk _ _ _ _ _ _) rfl (fun K hK => ?_) AllReadyH.nil)
    go_simp
    refine hK.out _ _ ?_ (fun hHeld => ?_)
    · exact hS _ (rn_w2.alloc _).drew (hb_w2.alloc le_w2 _).drew
    clear hK K
    try simp only [Act.put, lsa, lsz, lss]
    rotate_left 1
    go_simp
    refine hK.out _ _ ?_ (fun hHeld => ?_)
    · exact hS _ (rn_w2.alloc _).drew (hb_w2.alloc le_w2 _).drew
    clear hK K
    try simp only [Act.put, lsa, lsz, lss]
    have x9 := (hx2.alloc (.cells #[.string (bs nm), .int .i64 n0, .int .i64 n1, .slice none 0 0, .slice none 0 0, .slice none 0 0, .int .i64 n2, .int .i64 n3, .slice none 0 0, .slice none 0 0, .slice none 0 0, .slice none 0 0, .slice none 0 0, .slice none 0 0] 41)).cell 0
    simp only [List.getElem?_toArray, List.getElem?_cons_zero, List.getElem?_cons_succ] at x9
    refine wpAnyH_ready (rs := [1]) (by kernel_rfl) (by simp) (AllReadyH.cons (o := .mk _ _ _ _ _ _) rfl (fun K hK => ?_) AllReadyH.nil)
    go_simp
    refine hK.out _ _ ?_ (fun hHeld => ?_)
    · exact hS _ (rn_w2.alloc _).drew (hb_w2.alloc le_w2 _).drew
    clear hK K
    try simp only [Act.put, lsa, lsz, lss]
    clear x9
    all_goals (
      refine wpAnyH_ready (rs := [19]) (by kernel_rfl) (by simp) (AllReadyH.cons (o := .mk _ _ _ _ _ _) rfl (fun K hK => ?_) AllReadyH.nil)
      have hAl : Below w2.heap.size w2 ((w2.alloc (.cells #[.string (bs nm), .int .i64 n0, .int .i64 n1, .slice none 0 0, .slice none 0 0, .slice none 0 0, .int .i64 n2, .int .i64 n3, .slice none 0 0, .slice none 0 0, .slice none 0 0, .slice none 0 0, .slice none 0 0, .slice none 0 0] 41)).drew) := ((Below.refl _ _).alloc (Nat.le_refl _) _).drew
      have lo3 : LowS cR ((w2.alloc (.cells #[.string (bs nm), .int .i64 n0, .int .i64 n1, .slice none 0 0, .slice none 0 0, .slice none 0 0, .int .i64 n2, .int .i64 n3, .slice none 0 0, .slice none 0 0, .slice none 0 0, .slice none 0 0, .slice none 0 0, .slice none 0 0] 41)).drew) B1 S1 41 (.slice v.A1 v.t.rts.length v.c1) v.t.rts := lo_w2.same (fun b hb => hAl.block b (lo_w2.lt b hb).2) (fun b hb => hAl.block b (Nat.lt_of_lt_of_le (hS1 b hb).1 lo_w2.ble)) hAl.size
      refine step_append_lowS (c := cR) rfl _ _ 22 rfl B1 41 i0 _ 264 Tryz.underlying22 hi0 hy0 hy1 hy2 rfl (by decide) S1 (fun b h => (hS1 b h).1) _ v.t.rts rfl lo3 [.string (bs nm), .int .i64 n0, .int .i64 n1, .slice none 0 0, .slice none 0 0, .slice none 0 0, .int .i64 n2, .int .i64 n3, .slice none 0 0, .slice none 0 0, .slice none 0 0, .slice none 0 0, .slice none 0 0, .slice none 0 0] [_] (HRD.out _) (fun u hu => by (simp at hu; rcases hu with rfl | rfl | rfl | rfl | rfl | rfl | rfl | rfl | rfl | rfl | rfl | rfl | rfl | rfl <;> rfl)) ⟨_, 0, none⟩ _ _ rfl rfl (fun j u hj => by (rw [own_addr]; exact blk_cells (Blk.new _ _ _ _ rfl).drew j u hj)) (by simp; omega) (by omega) ?_
      intro u0 w5 hlo5 hf5 hg5
      obtain ⟨A90, c90, rfl⟩ := hlo5.form
      rw [List.length_append, List.length_singleton] at hlo5 ⊢
      have rn_5 := ((rn_w2.alloc (.cells #[.string (bs nm), .int .i64 n0, .int .i64 n1, .slice none 0 0, .slice none 0 0, .slice none 0 0, .int .i64 n2, .int .i64 n3, .slice none 0 0, .slice none 0 0, .slice none 0 0, .slice none 0 0, .slice none 0 0, .slice none 0 0] 41)).drew).frm hf5 (by decide) (Nat.zero_le _)
      have r2_5 := ((hX2r2.alloc (.cells #[.string (bs nm), .int .i64 n0, .int .i64 n1, .slice none 0 0, .slice none 0 0, .slice none 0 0, .int .i64 n2, .int .i64 n3, .slice none 0 0, .slice none 0 0, .slice none 0 0, .slice none 0 0, .slice none 0 0, .slice none 0 0] 41)).drew).frm hf5 (by decide) (Nat.zero_le _)
      have r3_5 := ((hX2r3.alloc (.cells #[.string (bs nm), .int .i64 n0, .int .i64 n1, .slice none 0 0, .slice none 0 0, .slice none 0 0, .int .i64 n2, .int .i64 n3, .slice none 0 0, .slice none 0 0, .slice none 0 0, .slice none 0 0, .slice none 0 0, .slice none 0 0] 41)).drew).frm hf5 (by decide) (Nat.zero_le _)
      have bx_5 := hf5.blk (hx2.alloc (.cells #[.string (bs nm), .int .i64 n0, .int .i64 n1, .slice none 0 0, .slice none 0 0, .slice none 0 0, .int .i64 n2, .int .i64 n3, .slice none 0 0, .slice none 0 0, .slice none 0 0, .slice none 0 0, .slice none 0 0, .slice none 0 0] 41)).drew (by decide)
      have bz_5 := hf5.blk (hz2.alloc (.cells #[.string (bs nm), .int .i64 n0, .int .i64 n1, .slice none 0 0, .slice none 0 0, .slice none 0 0, .int .i64 n2, .int .i64 n3, .slice none 0 0, .slice none 0 0, .slice none 0 0, .slice none 0 0, .slice none 0 0, .slice none 0 0] 41)).drew (by decide)
      have hb_5 : Below base w w5 := hf5.keeps hB1 (Nat.le_trans le_w2 (by simp)) ((hb_w2.alloc le_w2 _).drew)
      have hsz : w2.heap.size ≤ w5.heap.size := Nat.le_trans hAl.size hf5.size
      have kt_5 : ∀ b cs, Blk w b 25 cs → Blk w5 b 25 cs := fun b cs h => hf5.blk ((kt_2 b cs h).alloc (.cells #[.string (bs nm), .int .i64 n0, .int .i64 n1, .slice none 0 0, .slice none 0 0, .slice none 0 0, .int .i64 n2, .int .i64 n3, .slice none 0 0, .slice none 0 0, .slice none 0 0, .slice none 0 0, .slice none 0 0, .slice none 0 0] 41)).drew (by decide)
      clear hAl lo3 hf5 hg5
      refine hK.out _ _ ?_ (fun hHeld => ?_)
      · exact hS _ rn_5 hb_5
      clear hK K
      try simp only [Act.put, lsa, lsz, lss]
      have c_5 := bx_5.cell 0
      have f_5 := bx_5.free 0
      simp only [List.getElem?_toArray, List.getElem?_cons_zero, List.getElem?_cons_succ] at c_5
      refine tkY (i := 20) (oi := .mk _ _ _ _ _ _) (v := ?_) rfl (by kernel_rfl) (fun _ _ _ h => h) (Or.inl ⟨by rfl, ?_⟩) (by assumption) ?_
      rotate_left
      · intro W hSw; (try dsimp only at hSw); go_simp; first | done | with_reducible rfl
      try simp only [Act.put, lsa, lsz, lss]
      refine wpAnyH_ready (rs := [21]) (by kernel_rfl) (by simp) (AllReadyH.cons (o := .mk _ _ _ _ _ _) rfl (fun K hK => ?_) AllReadyH.nil)
      go_simp
      refine hK.out _ _ ?_ (fun hHeld => ?_)
      · exact hS _ (rn_5.set w.heap.size 0 _ _ _ bx_5 (by decide) (Nat.zero_le _)) (hb_5.setCell (p := ⟨w.heap.size, 0, none⟩) hle _)
      clear hK K
      try simp only [Act.put, lsa, lsz, lss]
      refine wpAnyH_done (by kernel_rfl) ?_ _
      have bx_6 : Blk (w5.setCell ⟨w.heap.size, 0, none⟩ (.slice A90 (v.t.rts.length + 1) c90)) w.heap.size 25 #[.slice A90 (v.t.rts.length + 1) c90, .slice v.A2 v.t.pts.length v.c2, .slice v.A3 v.t.homes.length v.c3, .int .i64 v.t.nsec, .int .i64 v.t.nsig] := bx_5.set 0 _
      have bz_6 := bz_5.far (p := ⟨w.heap.size, 0, none⟩) (show w.heap.size + 1 ≠ w.heap.size by omega) (.slice A90 (v.t.rts.length + 1) c90)
      have r2_6 := r2_5.set w.heap.size 0 (.slice A90 (v.t.rts.length + 1) c90) _ _ bx_5 (by decide) (Nat.zero_le _)
      have r3_6 := r3_5.set w.heap.size 0 (.slice A90 (v.t.rts.length + 1) c90) _ _ bx_5 (by decide) (Nat.zero_le _)
      have hb_6 := hb_5.setCell (p := ⟨w.heap.size, 0, none⟩) hle (.slice A90 (v.t.rts.length + 1) c90)
      have lo_6 := hlo5.same (w' := (w5.setCell ⟨w.heap.size, 0, none⟩ (.slice A90 (v.t.rts.length + 1) c90))) (fun b hb => Below.heap_setCell _ _ _ _ (hlo5.ne bx_5 (by decide) b hb)) (fun b hb => Below.heap_setCell _ _ _ _ (show b ≠ w.heap.size by have := (hS1 b hb).1; omega)) (by simp [World.setCell])
      have kt_6 : ∀ b cs, Blk w b 25 cs → Blk (w5.setCell ⟨w.heap.size, 0, none⟩ (.slice A90 (v.t.rts.length + 1) c90)) b 25 cs := fun b cs h => (kt_5 b cs h).far (p := ⟨w.heap.size, 0, none⟩) (show b ≠ w.heap.size by have := h.lt; omega) _
      have hsy : (w5.setCell ⟨w.heap.size, 0, none⟩ (.slice A90 (v.t.rts.length + 1) c90)).heap.size = w5.heap.size := by simp [World.setCell]
      clear rn_5 bx_5 bz_5 r2_5 r3_5 hb_5 c_5 f_5 hlo5 kt_5
      generalize (w5.setCell ⟨w.heap.size, 0, none⟩ (.slice A90 (v.t.rts.length + 1) c90)) = w6 at *
      have hfar : ∀ b, b ≠ w.heap.size + 1 → (put5 w6 (w.heap.size + 1) (.slice A90 (v.t.rts.length + 1) c90) (.slice v.A2 v.t.pts.length v.c2) (.slice v.A3 v.t.homes.length v.c3) (.int .i64 v.t.nsec) (.int .i64 v.t.nsig)).heap[b]? = w6.heap[b]? := fun b hb => put5_far _ _ _ _ _ _ _ _ hb
      have hXV : Xt (put5 w6 (w.heap.size + 1) (.slice A90 (v.t.rts.length + 1) c90) (.slice v.A2 v.t.pts.length v.c2) (.slice v.A3 v.t.homes.length v.c3) (.int .i64 v.t.nsec) (.int .i64 v.t.nsig)) base N { v with t := { v.t with rts := v.t.rts ++ [{ zR with name := nm, ent := n0, ext := n1, app := n2, len := n3 }] }, A1 := A90, c1 := c90 } := by
        refine ⟨⟨B1, S1, hB1, hS1, ?_⟩, r2_6.same0 fun b hb => hfar b (r2_6.ne bz_6 (by decide) b hb), r3_6.same0 fun b hb => hfar b (r3_6.ne bz_6 (by decide) b hb), HAP.out, hi1', hi2', by rw [put5_size]; omega⟩
        have h := lo_6.same (w' := (put5 w6 (w.heap.size + 1) (.slice A90 (v.t.rts.length + 1) c90) (.slice v.A2 v.t.pts.length v.c2) (.slice v.A3 v.t.homes.length v.c3) (.int .i64 v.t.nsec) (.int .i64 v.t.nsig))) (fun b hb => hfar b (lo_6.ne bz_6 (by decide) b hb)) (fun b hb => hfar b (by have := (hS1 b hb).1; omega)) (by rw [put5_size]; exact Nat.le_refl _)
        simpa only [List.length_append, List.length_singleton] using h
      have HTV : Hid (tvA { v with t := { v.t with rts := v.t.rts ++ [{ zR with name := nm, ent := n0, ext := n1, app := n2, len := n3 }] }, A1 := A90, c1 := c90 } = .agg #[.slice A90 (v.t.rts.length + 1) c90, .slice v.A2 v.t.pts.length v.c2, .slice v.A3 v.t.homes.length v.c3, .int .i64 v.t.nsec, .int .i64 v.t.nsig]) := Lib.hid (by unfold tvA; simp only [List.length_append, List.length_singleton])
      clear x0
      have x0 := bx_6.cell 0
      have z0 := bz_6.cell 0
      have x1 := bx_6.cell 1
      have z1 := bz_6.cell 1
      have x2 := bx_6.cell 2
      have z2 := bz_6.cell 2
      have x3 := bx_6.cell 3
      have z3 := bz_6.cell 3
      have x4 := bx_6.cell 4
      have z4 := bz_6.cell 4
      simp only [List.getElem?_toArray, List.getElem?_cons_zero, List.getElem?_cons_succ] at x0 x1 x2 x3 x4 z0 z1 z2 z3 z4
      have zf := bz_6.free
      have yf := bx_6.free
      have HP := Lib.hid ((⟨{ v with t := { v.t with rts := v.t.rts ++ [{ zR with name := nm, ent := n0, ext := n1, app := n2, len := n3 }] }, A1 := A90, c1 := c90 }, by rw [HTV.out, HX.out]; rfl, put5_low hb_6 (show base ≤ w.heap.size + 1 by omega) (.slice A90 (v.t.rts.length + 1) c90) (.slice v.A2 v.t.pts.length v.c2) (.slice v.A3 v.t.homes.length v.c3) (.int .i64 v.t.nsec) (.int .i64 v.t.nsig), Lib.hid (fun b cs h => (hfar b (by have := h.lt; omega)).trans (kt_6 b cs h)), Lib.hid fun x hx => by rw [HX.out] at hx; cases hx; exact ⟨rfl, hXV⟩⟩ : ExtP w base N (routeT v.t (nm :: rest)) (.returned (.tuple #[.agg #[.slice A90 (v.t.rts.length + 1) c90, .slice v.A2 v.t.pts.length v.c2, .slice v.A3 v.t.homes.length v.c3, .int .i64 v.t.nsec, .int .i64 v.t.nsig], .bool true])) (put5 w6 (w.heap.size + 1) (.slice A90 (v.t.rts.length + 1) c90) (.slice v.A2 v.t.pts.length v.c2) (.slice v.A3 v.t.homes.length v.c3) (.int .i64 v.t.nsec) (.int .i64 v.t.nsig))))
      clear kt_2 kt_6 hXV bx_6 bz_6 r2_6 r3_6 hb_6 hfar hS lo_6 hX2r2 hX2r3 hx2 hz2 lo_w2 hb_w2 rn_w2 hlx HC
      go_wp2_with fail
      exact bodyPost_ret (v := .tuple #[.agg #[.slice A90 (v.t.rts.length + 1) c90, .slice v.A2 v.t.pts.length v.c2, .slice v.A3 v.t.homes.length v.c3, .int .i64 v.t.nsec, .int .i64 v.t.nsig], .bool true]) (by simp [results, Tryz.results30, go_sem, z0, z1, z2, z3, z4]) rfl HP.out)
end Go.Proofs.YtlblfblkallnhaaGreatDoor
