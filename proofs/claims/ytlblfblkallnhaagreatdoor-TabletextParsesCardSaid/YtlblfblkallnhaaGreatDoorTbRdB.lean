/- reader.head, point, route. -/
import Derived.Test.YtlblfblkallnhaaGreatDoorTbRdA
namespace Go.Proofs.YtlblfblkallnhaaGreatDoor
set_option linter.unusedVariables false
set_option linter.unusedSimpArgs false
open Go.RowKit
attribute [local go_sem] bs_size bs_get bs_append bs_extract bs_toList
attribute [-go_sem] run_equalIn_agg
theorem head_len {t : Tab} {a : List (List UInt8)} (h : a.length ≠ 2) : headT t a = none := by unfold headT; rw [if_neg h]
theorem head_none {t : Tab} {a : List (List UInt8)} (h : optI a = none) : headT t a = none := by unfold headT; rw [h]; split <;> rfl
theorem head_some {t : Tab} {a : List (List UInt8)} {x y : Int} (h : optI a = some [x, y]) (hl : a.length = 2) : headT t a = some { t with nsec := x, nsig := y } := by unfold headT; rw [if_pos hl, h]; rfl
theorem point_len {t : Tab} {a : List (List UInt8)} (h : a.length ≠ 2) : pointT t a = none := by unfold pointT; rw [if_neg h]
theorem point_none {t : Tab} {a : List (List UInt8)} (h : optI a = none) : pointT t a = none := by unfold pointT; rw [h]; split <;> rfl
theorem point_some {t : Tab} {a : List (List UInt8)} {x y : Int} (h : optI a = some [x, y]) (hl : a.length = 2) : pointT t a = some { t with pts := t.pts ++ [x], homes := t.homes ++ [y] } := by unfold pointT; rw [if_pos hl, h]; rfl
theorem route_len {t : Tab} {a : List (List UInt8)} (h : a.length ≠ 5) : routeT t a = none := by unfold routeT; rw [if_neg h]
theorem route_none {t : Tab} {a : List (List UInt8)} (h : optI a.tail = none) : routeT t a = none := by unfold routeT; rw [h]; split <;> rfl
theorem route_some {t : Tab} {n : List UInt8} {r : List (List UInt8)} {x y z u : Int} (h : optI r = some [x, y, z, u]) (hl : (n :: r).length = 5) : routeT t (n :: r) = some { t with rts := t.rts ++ [{ zR with name := n, ent := x, ext := y, app := z, len := u }] } := by unfold routeT; rw [if_pos hl]; simp only [List.tail_cons, h]; rfl
theorem infoRouT : (Tryz.prog.info? 41).map (fun i => (i.zero, i.size, i.bytes)) = some (some (.agg #[.string ByteArray.empty, .int .i64 0, .int .i64 0, .slice none 0 0, .slice none 0 0, .slice none 0 0, .int .i64 0, .int .i64 0, .slice none 0 0, .slice none 0 0, .slice none 0 0, .slice none 0 0, .slice none 0 0, .slice none 0 0]), 14, 264) := by kernel_rfl
set_option maxRecDepth 100000 in
set_option maxHeartbeats 8000000 in
theorem head_any (w : World) (E : EnvR w) (g : Nat) (t : Tab) (p : Int) (h : RWS w g t p) (a : List (List UInt8)) (A : Option Addr) (cap : Nat) (hr : RdS cS w (fun k => k < g) A a) (hl : a.length ≤ 40000) (hw : ∀ x ∈ a, x.length ≤ 40000) :
    Calls Tryz.prog 62 #[.pointer (some ⟨g, 0, none⟩), .slice A a.length cap] w (LinePost g w (headT t a) p) := by
  obtain ⟨v1, v2, v3, h⟩ := h
  have hgl := h.blk.lt
  have hrw : RdS cS w (Lt w) A a := hr.more fun b hb => Nat.lt_of_lt_of_le hb (Nat.le_of_lt hgl)
  obtain ⟨r, hx⟩ : ∃ r, optI a = r := ⟨_, rfl⟩
  have HI := Lib.hid (intsC hx A cap w E hrw hl hw)
  have HLE : Hid (∀ ns, r = some ns → ns.length = a.length) := Lib.hid fun ns e => optI_len (hx.trans e)
  cases r with
  | none =>
    have HX := Lib.hid (head_none (t := t) hx)
    clear hx
    go_enter Tryz.func62, Tryz.ntmps62
    go_wp2_with fail
    refine HI.out.mono ?_
    rintro e w2 ⟨A6, c6, l6, rfl, hr6, hq, hl6⟩
    have hB := hq.mono (Nat.le_of_lt hgl)
    have hK := (h.now hq).boxS
    clear hr6 hl6 hq
    go_wp2_with fail
    go_ret
    exact linePost_no HX.out rfl hB hK
  | some ns =>
    have hnl := HLE.out ns rfl
    by_cases h2 : a.length = 2
    case neg =>
      have HX := Lib.hid (head_len (t := t) h2)
      have hlb : ((ns.length : Int) != 2) = true := by simp; omega
      clear hx h2 hnl
      go_enter Tryz.func62, Tryz.ntmps62
      go_wp2_with fail
      refine HI.out.mono ?_
      rintro e w2 ⟨A6, c6, l6, rfl, hr6, hq, hl6⟩
      have hB := hq.mono (Nat.le_of_lt hgl)
      have hK := (h.now hq).boxS
      obtain rfl := hl6.out ns rfl
      clear hr6 hl6 hq
      go_wp2_with fail
      go_ret
      exact linePost_no HX.out rfl hB hK
    case pos =>
      match ns, hnl.trans h2 with
      | [n0, n1], _ =>
      have HX := Lib.hid (head_some (t := t) hx h2)
      clear hx h2 hnl HLE
      go_enter Tryz.func62, Tryz.ntmps62
      go_wp2_with fail
      refine HI.out.mono ?_
      rintro e w2 ⟨A6, c6, l6, rfl, hr6, hq, hl6⟩
      have hB := hq.mono (Nat.le_of_lt hgl)
      obtain rfl := hl6.out _ rfl
      have h2 := h.now hq
      have hgl2 := h2.blk.lt
      have hle2 := hB.size
      obtain ⟨b6, c6', h6, h6c⟩ := own_ints hr6 (by simp)
      simp only [Value.slice.injEq] at h6
      obtain ⟨rfl, _, rfl⟩ := h6
      have hn0 := (own_cellI hr6 (i := 0) (by simp)).2
      have hn1 := (own_cellI hr6 (i := 1) (by simp)).2
      simp only [List.getElem_cons_zero, List.getElem_cons_succ, List.length_cons, List.length_nil, Nat.zero_add] at hn0 hn1 hr6 h6c ⊢
      clear hq hl6 h hr hrw HI
      go_wp2_with fail
      have hb6 : w.heap.size ≤ b6 := by obtain ⟨xs, hx6, _⟩ := hr6; exact own_block hx6 b6 rfl
      have z0 := cI_at hr6 0 2
      have z1 := cI_at hr6 1 2
      have hgb : g ≠ b6 := by omega
      have hgb' : b6 ≠ g := by omega
      have f3 := h2.blk.free 3
      have z3 := h2.x3
      have z4 := h2.x4
      have f4 := h2.blk.free 4
      have HR : Hid (RW ((w2.setCell ⟨g, 3, none⟩ (.int .i64 n0)).setCell ⟨g, 4, none⟩ (.int .i64 n1)) g _ p v1 v2 v3) := Lib.hid ((h2.put3 hn0).put4 hn1)
      have HB := Lib.hid ((hB.setCell (p := ⟨g, 3, none⟩) (Nat.le_refl g) (.int .i64 n0)).setCell (p := ⟨g, 4, none⟩) (Nat.le_refl g) (.int .i64 n1))
      clear h2 hB hr6
      go_region
      all_goals (go_wp2_with fail)
      all_goals go_ret
      all_goals exact linePost_ok HX.out rfl HB.out.drew ⟨_, _, _, HR.out.drew⟩
set_option maxRecDepth 100000 in
set_option maxHeartbeats 8000000 in
theorem point_any (w : World) (E : EnvR w) (g : Nat) (t : Tab) (p : Int) (h : RWS w g t p) (ht : t.rts = []) (hs : t.pts.length ≤ 50000 ∧ t.homes.length ≤ 50000) (a : List (List UInt8)) (A : Option Addr) (cap : Nat) (hr : RdS cS w (fun k => k < g) A a) (hl : a.length ≤ 40000) (hw : ∀ x ∈ a, x.length ≤ 40000) :
    Calls Tryz.prog 63 #[.pointer (some ⟨g, 0, none⟩), .slice A a.length cap] w (LinePost g w (pointT t a) p) := by
  obtain ⟨v1, v2, v3, h⟩ := h
  have hgl := h.blk.lt
  obtain ⟨i0, hi0, hz0, hz1, hz2⟩ := info_parts infoInt
  have hne2 : ∀ b6 c6, w.heap.size ≤ b6 → ∀ b, (Value.slice (some ⟨b6, 0, none⟩) 2 c6).ownBlock = some b → v2.ownBlock ≠ some b := fun b6 c6 h6 b hb hv => by have h1 := ownBlock_lt h.r2 b hv; have h2 : b6 = b := Option.some.inj hb; omega
  have hne3 : ∀ b6 c6, w.heap.size ≤ b6 → ∀ b, (Value.slice (some ⟨b6, 0, none⟩) 2 c6).ownBlock = some b → v3.ownBlock ≠ some b := fun b6 c6 h6 b hb hv => by have h1 := ownBlock_lt h.r3 b hv; have h2 : b6 = b := Option.some.inj hb; omega
  have hrw : RdS cS w (Lt w) A a := hr.more fun b hb => Nat.lt_of_lt_of_le hb (Nat.le_of_lt hgl)
  obtain ⟨r, hx⟩ : ∃ r, optI a = r := ⟨_, rfl⟩
  have HI := Lib.hid (intsC hx A cap w E hrw hl hw)
  have HLE : Hid (∀ ns, r = some ns → ns.length = a.length) := Lib.hid fun ns e => optI_len (hx.trans e)
  cases r with
  | none =>
    have HX := Lib.hid (point_none (t := t) hx)
    clear hx
    go_enter Tryz.func63, Tryz.ntmps63
    go_wp2_with fail
    refine HI.out.mono ?_
    rintro e w2 ⟨A6, c6, l6, rfl, hr6, hq, hl6⟩
    have hB := hq.mono (Nat.le_of_lt hgl)
    have hK := (h.now hq).boxS
    clear hr6 hl6 hq
    go_wp2_with fail
    go_ret
    exact linePost_no HX.out rfl hB hK
  | some ns =>
    have hnl := HLE.out ns rfl
    by_cases h2 : a.length = 2
    case neg =>
      have HX := Lib.hid (point_len (t := t) h2)
      have hlb : ((ns.length : Int) != 2) = true := by simp; omega
      clear hx h2 hnl
      go_enter Tryz.func63, Tryz.ntmps63
      go_wp2_with fail
      refine HI.out.mono ?_
      rintro e w2 ⟨A6, c6, l6, rfl, hr6, hq, hl6⟩
      have hB := hq.mono (Nat.le_of_lt hgl)
      have hK := (h.now hq).boxS
      obtain rfl := hl6.out ns rfl
      clear hr6 hl6 hq
      go_wp2_with fail
      go_ret
      exact linePost_no HX.out rfl hB hK
    case pos =>
      match ns, hnl.trans h2 with
      | [n0, n1], _ =>
      have HX := Lib.hid (point_some (t := t) hx h2)
      clear hx h2 hnl HLE
      go_enter Tryz.func63, Tryz.ntmps63
      go_wp2_with fail
      refine HI.out.mono ?_
      rintro e w2 ⟨A6, c6, l6, rfl, hr6, hq, hl6⟩
      have hB := hq.mono (Nat.le_of_lt hgl)
      obtain rfl := hl6.out _ rfl
      have h2 := h.now hq
      have hgl2 := h2.blk.lt
      have hle2 := hB.size
      obtain ⟨b6, c6', h6, h6c⟩ := own_ints hr6 (by simp)
      simp only [Value.slice.injEq] at h6
      obtain ⟨rfl, _, rfl⟩ := h6
      have hn0 := (own_cellI hr6 (i := 0) (by simp)).2
      have hn1 := (own_cellI hr6 (i := 1) (by simp)).2
      simp only [List.getElem_cons_zero, List.getElem_cons_succ, List.length_cons, List.length_nil, Nat.zero_add] at hn0 hn1 hr6 h6c ⊢
      clear hq hl6 h hr hrw HI
      go_wp2_with fail
      have hS : ∀ w' : World, OwnR cI w' w.heap.size 3 (.slice (some ⟨b6, 0, none⟩) 2 c6) [n0, n1] 0 → (fun w' => w'.cell? ⟨b6, 0, none⟩ = some (.int .i64 n0) ∧ w'.cell? ⟨b6, 1, none⟩ = some (.int .i64 n1) ∧ OwnR cI w' w.heap.size 3 (.slice (some ⟨b6, 0, none⟩) 2 c6) [n0, n1] 0) w' := fun w' hq => ⟨cI_at hq 0 2, cI_at hq 1 2, hq⟩
      have hb6 : w.heap.size ≤ b6 := by obtain ⟨xs, hx6, _⟩ := hr6; exact own_block hx6 b6 rfl
      have x1 := h2.x1
      refine wp_region_held_drew (S := (fun w' => w'.cell? ⟨b6, 0, none⟩ = some (.int .i64 n0) ∧ w'.cell? ⟨b6, 1, none⟩ = some (.int .i64 n1) ∧ OwnR cI w' w.heap.size 3 (.slice (some ⟨b6, 0, none⟩) 2 c6) [n0, n1] 0)) (by kernel_rfl) (hS _ hr6.drew) (fun hHeld => ?_)
      refine tkY (i := 0) (oi := .mk _ _ _ _ _ _) (v := ?_) rfl (by kernel_rfl) (fun _ _ _ h => h) (Or.inl ⟨by rfl, ?_⟩) (by assumption) ?_
      rotate_left
      · intro W hSw; (try dsimp only at hSw); go_simp; first | done | with_reducible rfl
      try simp only [Act.put, lsa, lsz, lss]
      refine tkY (i := 1) (oi := .mk _ _ _ _ _ _) (v := ?_) rfl (by kernel_rfl) (fun _ _ _ h => h) (Or.inl ⟨by rfl, ?_⟩) (by assumption) ?_
      rotate_left
      · intro W hSw; (try dsimp only at hSw); go_simp; first | done | with_reducible rfl
      try simp only [Act.put, lsa, lsz, lss]
      refine tkY (i := 2) (oi := .mk _ _ _ _ _ _) (v := ?_) rfl (by kernel_rfl) (fun _ _ _ h => h) (Or.inl ⟨by rfl, ?_⟩) (by assumption) ?_
      rotate_left
      · intro W hSw; (try dsimp only at hSw); go_simp; first | done | with_reducible rfl
      try simp only [Act.put, lsa, lsz, lss]
      refine tkY (i := 3) (oi := .mk _ _ _ _ _ _) (v := ?_) rfl (by kernel_rfl) (fun _ _ _ h => h) (Or.inl ⟨by rfl, ?_⟩) (by assumption) ?_
      rotate_left
      · intro W hSw; (try dsimp only at hSw); go_simp; first | done | with_reducible rfl
      try simp only [Act.put, lsa, lsz, lss]
      refine tkY (i := 4) (oi := .mk _ _ _ _ _ _) (v := ?_) rfl (by kernel_rfl) (fun _ _ _ h => h) (Or.inl ⟨by rfl, ?_⟩) (by assumption) ?_
      rotate_left
      · intro W hSw; (try dsimp only at hSw); go_simp; first | done | with_reducible rfl
      try simp only [Act.put, lsa, lsz, lss]
      refine tkY (i := 6) (oi := .mk _ _ _ _ _ _) (v := ?_) rfl (by kernel_rfl) (fun _ _ _ h => h) (Or.inl ⟨by rfl, ?_⟩) (by assumption) ?_
      rotate_left
      · intro W hSw; (try dsimp only at hSw); go_simp; first | done | with_reducible rfl
      try simp only [Act.put, lsa, lsz, lss]
      refine tkY (i := 7) (oi := .mk _ _ _ _ _ _) (v := ?_) rfl (by kernel_rfl) (fun _ _ _ h => h) (Or.inl ⟨by rfl, ?_⟩) (by assumption) ?_
      rotate_left
      · intro W hSw; (try dsimp only at hSw); go_simp; first | done | with_reducible rfl
      try simp only [Act.put, lsa, lsz, lss]
      refine tkY (i := 8) (oi := .mk _ _ _ _ _ _) (v := ?_) rfl (by kernel_rfl) (fun _ _ _ h => h) (Or.inl ⟨by rfl, ?_⟩) (by assumption) ?_
      rotate_left
      · intro W hSw; (try dsimp only at hSw); go_simp; first | done | with_reducible rfl
      try simp only [Act.put, lsa, lsz, lss]
      refine wpAnyH_ready (rs := [5, 9]) (by kernel_rfl) (by simp) (AllReadyH.cons (o := .mk _ _ _ _ _ _) rfl (fun K hK => ?_) (AllReadyH.cons (o := .mk _ _ _ _ _ _) rfl (fun K hK => ?_) AllReadyH.nil))
      · go_simp
        refine hK.out _ _ ?_ (fun hHeld => ?_)
        · exact hS _ hr6.drew
        clear hK K
        try simp only [Act.put, lsa, lsz, lss]
        refine wpAnyH_ready (rs := [9]) (by kernel_rfl) (by simp) (AllReadyH.cons (o := .mk _ _ _ _ _ _) rfl (fun K hK => ?_) AllReadyH.nil)
        go_simp
        refine hK.out _ _ ?_ (fun hHeld => ?_)
        · exact hS _ (hr6.drew.alloc _)
        clear hK K
        try simp only [Act.put, lsa, lsz, lss]
        have h1 : RW _ g _ p _ _ _ := h2.drew.alloc (.cells #[.int .i64 n0] 3)
        refine wpAnyH_ready (rs := [10]) (by kernel_rfl) (by simp) (AllReadyH.cons (o := .mk _ _ _ _ _ _) rfl (fun K hK => ?_) AllReadyH.nil)
        refine step_append_q rfl _ _ 23 rfl (g + 1) 3 i0 _ 8 Tryz.underlying23 hi0 hz0 hz1 hz2 rfl (by decide) v2 _ 0 rfl h1.r2 [.int .i64 n0] n0 ⟨rfl, hn0⟩ (fun u hu => by (simp at hu; subst hu; rfl)) ⟨_, 0, none⟩ _ rfl (fun j u hj => by (rw [own_addr]; exact blk_cells (Blk.new _ _ _ _ rfl) j u hj)) (Nat.le_trans hs.1 (by omega)) (by omega) (Nat.succ_le_of_lt h1.blk.lt) ?_
        intro u1 w5 hq5
        obtain ⟨A91, c91, rfl⟩ := hq5.own.form
        rw [List.length_append, List.length_singleton] at hq5 ⊢
        have hr7 := (hr6.drew.alloc (.cells #[.int .i64 n0] 3)).apart hq5 (hne2 _ _ hb6)
        refine hK.out _ _ ?_ (fun hHeld => ?_)
        · exact hS _ hr7
        clear hK K
        try simp only [Act.put, lsa, lsz, lss]
        refine tkY (i := 11) (oi := .mk _ _ _ _ _ _) (v := ?_) rfl (by kernel_rfl) (fun _ _ _ h => h) (Or.inl ⟨by rfl, ?_⟩) (by assumption) ?_
        rotate_left
        · intro W hSw; (try dsimp only at hSw); go_simp; first | done | with_reducible rfl
        try simp only [Act.put, lsa, lsz, lss]
        refine tkY (i := 12) (oi := .mk _ _ _ _ _ _) (v := ?_) rfl (by kernel_rfl) (fun _ _ _ h => h) (Or.inl ⟨by rfl, ?_⟩) (by assumption) ?_
        rotate_left
        · intro W hSw; (try dsimp only at hSw); go_simp; first | done | with_reducible rfl
        try simp only [Act.put, lsa, lsz, lss]
        refine tkY (i := 13) (oi := .mk _ _ _ _ _ _) (v := ?_) rfl (by kernel_rfl) (fun _ _ _ h => h) (Or.inl ⟨by rfl, ?_⟩) (by assumption) ?_
        rotate_left
        · intro W hSw; (try dsimp only at hSw); go_simp; first | done | with_reducible rfl
        try simp only [Act.put, lsa, lsz, lss]
        have h5 := h1.put1 ht hq5
        have hb5 := hq5.frm.blk h1.blk (by decide)
        have z5 := hb5.cell 1
        have f5 := hb5.free 1
        simp only [List.getElem?_toArray, List.getElem?_cons_zero, List.getElem?_cons_succ] at z5
        refine wpAnyH_ready (rs := [14]) (by kernel_rfl) (by simp) (AllReadyH.cons (o := .mk _ _ _ _ _ _) rfl (fun K hK => ?_) AllReadyH.nil)
        go_simp
        refine hK.out _ _ ?_ (fun hHeld => ?_)
        · exact hS _ (hr7.set g 1 _ _ _ hb5 (by decide) (Nat.zero_le _)).drew
        clear hK K
        try simp only [Act.put, lsa, lsz, lss]
        refine wpAnyH_done (by kernel_rfl) ?_ _
        have hB5 : Below g w w5 := hq5.frm.keeps (Nat.le_succ g) (Nat.le_of_lt h1.blk.lt) ((hB).drew.alloc (Nat.le_of_lt h2.blk.lt) _)
        have hr8 := hr7.set g 1 (.slice A91 (t.pts.length + 1) c91) _ _ hb5 (by decide) (Nat.zero_le _)
        have hB8 := hB5.setCell (p := ⟨g, 1, none⟩) (Nat.le_refl g) (.slice A91 (t.pts.length + 1) c91)
        have h8 := h5
        generalize w5.setCell ⟨g, 1, none⟩ (.slice A91 (t.pts.length + 1) c91) = w8 at *
        clear hq5 h5 h1 hr7 hb5 z5 f5 hB5 x1
        have x2 := h8.x2
        have hgl8 := h8.blk.lt
        go_wp2_with fail
        refine wp_region_held_drew (S := (fun w' => w'.cell? ⟨b6, 0, none⟩ = some (.int .i64 n0) ∧ w'.cell? ⟨b6, 1, none⟩ = some (.int .i64 n1) ∧ OwnR cI w' w.heap.size 3 (.slice (some ⟨b6, 0, none⟩) 2 c6) [n0, n1] 0)) (by kernel_rfl) (hS _ hr8.drew) (fun hHeld => ?_)
        refine tkY (i := 0) (oi := .mk _ _ _ _ _ _) (v := ?_) rfl (by kernel_rfl) (fun _ _ _ h => h) (Or.inl ⟨by rfl, ?_⟩) (by assumption) ?_
        rotate_left
        · intro W hSw; (try dsimp only at hSw); go_simp; first | done | with_reducible rfl
        try simp only [Act.put, lsa, lsz, lss]
        refine tkY (i := 1) (oi := .mk _ _ _ _ _ _) (v := ?_) rfl (by kernel_rfl) (fun _ _ _ h => h) (Or.inl ⟨by rfl, ?_⟩) (by assumption) ?_
        rotate_left
        · intro W hSw; (try dsimp only at hSw); go_simp; first | done | with_reducible rfl
        try simp only [Act.put, lsa, lsz, lss]
        refine tkY (i := 2) (oi := .mk _ _ _ _ _ _) (v := ?_) rfl (by kernel_rfl) (fun _ _ _ h => h) (Or.inl ⟨by rfl, ?_⟩) (by assumption) ?_
        rotate_left
        · intro W hSw; (try dsimp only at hSw); go_simp; first | done | with_reducible rfl
        try simp only [Act.put, lsa, lsz, lss]
        refine tkY (i := 3) (oi := .mk _ _ _ _ _ _) (v := ?_) rfl (by kernel_rfl) (fun _ _ _ h => h) (Or.inl ⟨by rfl, ?_⟩) (by assumption) ?_
        rotate_left
        · intro W hSw; (try dsimp only at hSw); go_simp; first | done | with_reducible rfl
        try simp only [Act.put, lsa, lsz, lss]
        refine tkY (i := 4) (oi := .mk _ _ _ _ _ _) (v := ?_) rfl (by kernel_rfl) (fun _ _ _ h => h) (Or.inl ⟨by rfl, ?_⟩) (by assumption) ?_
        rotate_left
        · intro W hSw; (try dsimp only at hSw); go_simp; first | done | with_reducible rfl
        try simp only [Act.put, lsa, lsz, lss]
        refine tkY (i := 6) (oi := .mk _ _ _ _ _ _) (v := ?_) rfl (by kernel_rfl) (fun _ _ _ h => h) (Or.inl ⟨by rfl, ?_⟩) (by assumption) ?_
        rotate_left
        · intro W hSw; (try dsimp only at hSw); go_simp; first | done | with_reducible rfl
        try simp only [Act.put, lsa, lsz, lss]
        refine tkY (i := 7) (oi := .mk _ _ _ _ _ _) (v := ?_) rfl (by kernel_rfl) (fun _ _ _ h => h) (Or.inl ⟨by rfl, ?_⟩) (by assumption) ?_
        rotate_left
        · intro W hSw; (try dsimp only at hSw); go_simp; first | done | with_reducible rfl
        try simp only [Act.put, lsa, lsz, lss]
        refine tkY (i := 8) (oi := .mk _ _ _ _ _ _) (v := ?_) rfl (by kernel_rfl) (fun _ _ _ h => h) (Or.inl ⟨by rfl, ?_⟩) (by assumption) ?_
        rotate_left
        · intro W hSw; (try dsimp only at hSw); go_simp; first | done | with_reducible rfl
        try simp only [Act.put, lsa, lsz, lss]
        refine wpAnyH_ready (rs := [5, 9]) (by kernel_rfl) (by simp) (AllReadyH.cons (o := .mk _ _ _ _ _ _) rfl (fun K hK => ?_) (AllReadyH.cons (o := .mk _ _ _ _ _ _) rfl (fun K hK => ?_) AllReadyH.nil))
        · go_simp
          refine hK.out _ _ ?_ (fun hHeld => ?_)
          · exact hS _ hr8.drew
          clear hK K
          try simp only [Act.put, lsa, lsz, lss]
          refine wpAnyH_ready (rs := [9]) (by kernel_rfl) (by simp) (AllReadyH.cons (o := .mk _ _ _ _ _ _) rfl (fun K hK => ?_) AllReadyH.nil)
          go_simp
          refine hK.out _ _ ?_ (fun hHeld => ?_)
          · exact hS _ (hr8.drew.alloc _)
          clear hK K
          try simp only [Act.put, lsa, lsz, lss]
          have h1 : RW _ g _ p _ _ _ := h8.drew.alloc (.cells #[.int .i64 n1] 3)
          refine wpAnyH_ready (rs := [10]) (by kernel_rfl) (by simp) (AllReadyH.cons (o := .mk _ _ _ _ _ _) rfl (fun K hK => ?_) AllReadyH.nil)
          refine step_append_q rfl _ _ 23 rfl (g + 1) 3 i0 _ 8 Tryz.underlying23 hi0 hz0 hz1 hz2 rfl (by decide) v3 _ 0 rfl h1.r3 [.int .i64 n1] n1 ⟨rfl, hn1⟩ (fun u hu => by (simp at hu; subst hu; rfl)) ⟨_, 0, none⟩ _ rfl (fun j u hj => by (rw [own_addr]; exact blk_cells (Blk.new _ _ _ _ rfl) j u hj)) (Nat.le_trans hs.2 (by omega)) (by omega) (Nat.succ_le_of_lt h1.blk.lt) ?_
          intro u2 w9 hq5
          obtain ⟨A92, c92, rfl⟩ := hq5.own.form
          rw [List.length_append, List.length_singleton] at hq5 ⊢
          have hr7 := (hr8.drew.alloc (.cells #[.int .i64 n1] 3)).apart hq5 (hne3 _ _ hb6)
          refine hK.out _ _ ?_ (fun hHeld => ?_)
          · exact hS _ hr7
          clear hK K
          try simp only [Act.put, lsa, lsz, lss]
          refine tkY (i := 11) (oi := .mk _ _ _ _ _ _) (v := ?_) rfl (by kernel_rfl) (fun _ _ _ h => h) (Or.inl ⟨by rfl, ?_⟩) (by assumption) ?_
          rotate_left
          · intro W hSw; (try dsimp only at hSw); go_simp; first | done | with_reducible rfl
          try simp only [Act.put, lsa, lsz, lss]
          refine tkY (i := 12) (oi := .mk _ _ _ _ _ _) (v := ?_) rfl (by kernel_rfl) (fun _ _ _ h => h) (Or.inl ⟨by rfl, ?_⟩) (by assumption) ?_
          rotate_left
          · intro W hSw; (try dsimp only at hSw); go_simp; first | done | with_reducible rfl
          try simp only [Act.put, lsa, lsz, lss]
          refine tkY (i := 13) (oi := .mk _ _ _ _ _ _) (v := ?_) rfl (by kernel_rfl) (fun _ _ _ h => h) (Or.inl ⟨by rfl, ?_⟩) (by assumption) ?_
          rotate_left
          · intro W hSw; (try dsimp only at hSw); go_simp; first | done | with_reducible rfl
          try simp only [Act.put, lsa, lsz, lss]
          have h5 := h1.put2 ht hq5
          have hb5 := hq5.frm.blk h1.blk (by decide)
          have z5 := hb5.cell 2
          have f5 := hb5.free 2
          simp only [List.getElem?_toArray, List.getElem?_cons_zero, List.getElem?_cons_succ] at z5
          refine wpAnyH_ready (rs := [14]) (by kernel_rfl) (by simp) (AllReadyH.cons (o := .mk _ _ _ _ _ _) rfl (fun K hK => ?_) AllReadyH.nil)
          go_simp
          refine hK.out _ _ ?_ (fun hHeld => ?_)
          · exact hS _ (hr7.set g 2 _ _ _ hb5 (by decide) (Nat.zero_le _)).drew
          clear hK K
          try simp only [Act.put, lsa, lsz, lss]
          refine wpAnyH_done (by kernel_rfl) ?_ _
          have hB5 : Below g w w9 := hq5.frm.keeps (Nat.le_succ g) (Nat.le_of_lt h1.blk.lt) ((hB8).drew.alloc (Nat.le_of_lt h8.blk.lt) _)
          go_wp2_with fail
          go_ret
          exact linePost_ok HX.out rfl (hB5.setCell (p := ⟨g, 2, none⟩) (Nat.le_refl g) _) ⟨_, _, _, h5⟩
        · go_simp
          refine hK.out _ _ ?_ (fun hHeld => ?_)
          · exact hS _ (hr8.drew.alloc _)
          clear hK K
          try simp only [Act.put, lsa, lsz, lss]
          have x9 := (h8.drew.alloc (.cells #[.int .i64 n1] 3)).x2
          refine wpAnyH_ready (rs := [5]) (by kernel_rfl) (by simp) (AllReadyH.cons (o := .mk _ _ _ _ _ _) rfl (fun K hK => ?_) AllReadyH.nil)
          go_simp
          refine hK.out _ _ ?_ (fun hHeld => ?_)
          · exact hS _ (hr8.drew.alloc _)
          clear hK K
          try simp only [Act.put, lsa, lsz, lss]
          clear x9
          have h1 : RW _ g _ p _ _ _ := h8.drew.alloc (.cells #[.int .i64 n1] 3)
          refine wpAnyH_ready (rs := [10]) (by kernel_rfl) (by simp) (AllReadyH.cons (o := .mk _ _ _ _ _ _) rfl (fun K hK => ?_) AllReadyH.nil)
          refine step_append_q rfl _ _ 23 rfl (g + 1) 3 i0 _ 8 Tryz.underlying23 hi0 hz0 hz1 hz2 rfl (by decide) v3 _ 0 rfl h1.r3 [.int .i64 n1] n1 ⟨rfl, hn1⟩ (fun u hu => by (simp at hu; subst hu; rfl)) ⟨_, 0, none⟩ _ rfl (fun j u hj => by (rw [own_addr]; exact blk_cells (Blk.new _ _ _ _ rfl) j u hj)) (Nat.le_trans hs.2 (by omega)) (by omega) (Nat.succ_le_of_lt h1.blk.lt) ?_
          intro u2 w9 hq5
          obtain ⟨A92, c92, rfl⟩ := hq5.own.form
          rw [List.length_append, List.length_singleton] at hq5 ⊢
          have hr7 := (hr8.drew.alloc (.cells #[.int .i64 n1] 3)).apart hq5 (hne3 _ _ hb6)
          refine hK.out _ _ ?_ (fun hHeld => ?_)
          · exact hS _ hr7
          clear hK K
          try simp only [Act.put, lsa, lsz, lss]
          refine tkY (i := 11) (oi := .mk _ _ _ _ _ _) (v := ?_) rfl (by kernel_rfl) (fun _ _ _ h => h) (Or.inl ⟨by rfl, ?_⟩) (by assumption) ?_
          rotate_left
          · intro W hSw; (try dsimp only at hSw); go_simp; first | done | with_reducible rfl
          try simp only [Act.put, lsa, lsz, lss]
          refine tkY (i := 12) (oi := .mk _ _ _ _ _ _) (v := ?_) rfl (by kernel_rfl) (fun _ _ _ h => h) (Or.inl ⟨by rfl, ?_⟩) (by assumption) ?_
          rotate_left
          · intro W hSw; (try dsimp only at hSw); go_simp; first | done | with_reducible rfl
          try simp only [Act.put, lsa, lsz, lss]
          refine tkY (i := 13) (oi := .mk _ _ _ _ _ _) (v := ?_) rfl (by kernel_rfl) (fun _ _ _ h => h) (Or.inl ⟨by rfl, ?_⟩) (by assumption) ?_
          rotate_left
          · intro W hSw; (try dsimp only at hSw); go_simp; first | done | with_reducible rfl
          try simp only [Act.put, lsa, lsz, lss]
          have h5 := h1.put2 ht hq5
          have hb5 := hq5.frm.blk h1.blk (by decide)
          have z5 := hb5.cell 2
          have f5 := hb5.free 2
          simp only [List.getElem?_toArray, List.getElem?_cons_zero, List.getElem?_cons_succ] at z5
          refine wpAnyH_ready (rs := [14]) (by kernel_rfl) (by simp) (AllReadyH.cons (o := .mk _ _ _ _ _ _) rfl (fun K hK => ?_) AllReadyH.nil)
          go_simp
          refine hK.out _ _ ?_ (fun hHeld => ?_)
          · exact hS _ (hr7.set g 2 _ _ _ hb5 (by decide) (Nat.zero_le _)).drew
          clear hK K
          try simp only [Act.put, lsa, lsz, lss]
          refine wpAnyH_done (by kernel_rfl) ?_ _
          have hB5 : Below g w w9 := hq5.frm.keeps (Nat.le_succ g) (Nat.le_of_lt h1.blk.lt) ((hB8).drew.alloc (Nat.le_of_lt h8.blk.lt) _)
          go_wp2_with fail
          go_ret
          exact linePost_ok HX.out rfl (hB5.setCell (p := ⟨g, 2, none⟩) (Nat.le_refl g) _) ⟨_, _, _, h5⟩
      · go_simp
        refine hK.out _ _ ?_ (fun hHeld => ?_)
        · exact hS _ (hr6.drew.alloc _)
        clear hK K
        try simp only [Act.put, lsa, lsz, lss]
        have x9 := (h2.drew.alloc (.cells #[.int .i64 n0] 3)).x1
        refine wpAnyH_ready (rs := [5]) (by kernel_rfl) (by simp) (AllReadyH.cons (o := .mk _ _ _ _ _ _) rfl (fun K hK => ?_) AllReadyH.nil)
        go_simp
        refine hK.out _ _ ?_ (fun hHeld => ?_)
        · exact hS _ (hr6.drew.alloc _)
        clear hK K
        try simp only [Act.put, lsa, lsz, lss]
        clear x9
        have h1 : RW _ g _ p _ _ _ := h2.drew.alloc (.cells #[.int .i64 n0] 3)
        refine wpAnyH_ready (rs := [10]) (by kernel_rfl) (by simp) (AllReadyH.cons (o := .mk _ _ _ _ _ _) rfl (fun K hK => ?_) AllReadyH.nil)
        refine step_append_q rfl _ _ 23 rfl (g + 1) 3 i0 _ 8 Tryz.underlying23 hi0 hz0 hz1 hz2 rfl (by decide) v2 _ 0 rfl h1.r2 [.int .i64 n0] n0 ⟨rfl, hn0⟩ (fun u hu => by (simp at hu; subst hu; rfl)) ⟨_, 0, none⟩ _ rfl (fun j u hj => by (rw [own_addr]; exact blk_cells (Blk.new _ _ _ _ rfl) j u hj)) (Nat.le_trans hs.1 (by omega)) (by omega) (Nat.succ_le_of_lt h1.blk.lt) ?_
        intro u1 w5 hq5
        obtain ⟨A91, c91, rfl⟩ := hq5.own.form
        rw [List.length_append, List.length_singleton] at hq5 ⊢
        have hr7 := (hr6.drew.alloc (.cells #[.int .i64 n0] 3)).apart hq5 (hne2 _ _ hb6)
        refine hK.out _ _ ?_ (fun hHeld => ?_)
        · exact hS _ hr7
        clear hK K
        try simp only [Act.put, lsa, lsz, lss]
        refine tkY (i := 11) (oi := .mk _ _ _ _ _ _) (v := ?_) rfl (by kernel_rfl) (fun _ _ _ h => h) (Or.inl ⟨by rfl, ?_⟩) (by assumption) ?_
        rotate_left
        · intro W hSw; (try dsimp only at hSw); go_simp; first | done | with_reducible rfl
        try simp only [Act.put, lsa, lsz, lss]
        refine tkY (i := 12) (oi := .mk _ _ _ _ _ _) (v := ?_) rfl (by kernel_rfl) (fun _ _ _ h => h) (Or.inl ⟨by rfl, ?_⟩) (by assumption) ?_
        rotate_left
        · intro W hSw; (try dsimp only at hSw); go_simp; first | done | with_reducible rfl
        try simp only [Act.put, lsa, lsz, lss]
        refine tkY (i := 13) (oi := .mk _ _ _ _ _ _) (v := ?_) rfl (by kernel_rfl) (fun _ _ _ h => h) (Or.inl ⟨by rfl, ?_⟩) (by assumption) ?_
        rotate_left
        · intro W hSw; (try dsimp only at hSw); go_simp; first | done | with_reducible rfl
        try simp only [Act.put, lsa, lsz, lss]
        have h5 := h1.put1 ht hq5
        have hb5 := hq5.frm.blk h1.blk (by decide)
        have z5 := hb5.cell 1
        have f5 := hb5.free 1
        simp only [List.getElem?_toArray, List.getElem?_cons_zero, List.getElem?_cons_succ] at z5
        refine wpAnyH_ready (rs := [14]) (by kernel_rfl) (by simp) (AllReadyH.cons (o := .mk _ _ _ _ _ _) rfl (fun K hK => ?_) AllReadyH.nil)
        go_simp
        refine hK.out _ _ ?_ (fun hHeld => ?_)
        · exact hS _ (hr7.set g 1 _ _ _ hb5 (by decide) (Nat.zero_le _)).drew
        clear hK K
        try simp only [Act.put, lsa, lsz, lss]
        refine wpAnyH_done (by kernel_rfl) ?_ _
        have hB5 : Below g w w5 := hq5.frm.keeps (Nat.le_succ g) (Nat.le_of_lt h1.blk.lt) ((hB).drew.alloc (Nat.le_of_lt h2.blk.lt) _)
        have hr8 := hr7.set g 1 (.slice A91 (t.pts.length + 1) c91) _ _ hb5 (by decide) (Nat.zero_le _)
        have hB8 := hB5.setCell (p := ⟨g, 1, none⟩) (Nat.le_refl g) (.slice A91 (t.pts.length + 1) c91)
        have h8 := h5
        generalize w5.setCell ⟨g, 1, none⟩ (.slice A91 (t.pts.length + 1) c91) = w8 at *
        clear hq5 h5 h1 hr7 hb5 z5 f5 hB5 x1
        have x2 := h8.x2
        have hgl8 := h8.blk.lt
        go_wp2_with fail
        refine wp_region_held_drew (S := (fun w' => w'.cell? ⟨b6, 0, none⟩ = some (.int .i64 n0) ∧ w'.cell? ⟨b6, 1, none⟩ = some (.int .i64 n1) ∧ OwnR cI w' w.heap.size 3 (.slice (some ⟨b6, 0, none⟩) 2 c6) [n0, n1] 0)) (by kernel_rfl) (hS _ hr8.drew) (fun hHeld => ?_)
        refine tkY (i := 0) (oi := .mk _ _ _ _ _ _) (v := ?_) rfl (by kernel_rfl) (fun _ _ _ h => h) (Or.inl ⟨by rfl, ?_⟩) (by assumption) ?_
        rotate_left
        · intro W hSw; (try dsimp only at hSw); go_simp; first | done | with_reducible rfl
        try simp only [Act.put, lsa, lsz, lss]
        refine tkY (i := 1) (oi := .mk _ _ _ _ _ _) (v := ?_) rfl (by kernel_rfl) (fun _ _ _ h => h) (Or.inl ⟨by rfl, ?_⟩) (by assumption) ?_
        rotate_left
        · intro W hSw; (try dsimp only at hSw); go_simp; first | done | with_reducible rfl
        try simp only [Act.put, lsa, lsz, lss]
        refine tkY (i := 2) (oi := .mk _ _ _ _ _ _) (v := ?_) rfl (by kernel_rfl) (fun _ _ _ h => h) (Or.inl ⟨by rfl, ?_⟩) (by assumption) ?_
        rotate_left
        · intro W hSw; (try dsimp only at hSw); go_simp; first | done | with_reducible rfl
        try simp only [Act.put, lsa, lsz, lss]
        refine tkY (i := 3) (oi := .mk _ _ _ _ _ _) (v := ?_) rfl (by kernel_rfl) (fun _ _ _ h => h) (Or.inl ⟨by rfl, ?_⟩) (by assumption) ?_
        rotate_left
        · intro W hSw; (try dsimp only at hSw); go_simp; first | done | with_reducible rfl
        try simp only [Act.put, lsa, lsz, lss]
        refine tkY (i := 4) (oi := .mk _ _ _ _ _ _) (v := ?_) rfl (by kernel_rfl) (fun _ _ _ h => h) (Or.inl ⟨by rfl, ?_⟩) (by assumption) ?_
        rotate_left
        · intro W hSw; (try dsimp only at hSw); go_simp; first | done | with_reducible rfl
        try simp only [Act.put, lsa, lsz, lss]
        refine tkY (i := 6) (oi := .mk _ _ _ _ _ _) (v := ?_) rfl (by kernel_rfl) (fun _ _ _ h => h) (Or.inl ⟨by rfl, ?_⟩) (by assumption) ?_
        rotate_left
        · intro W hSw; (try dsimp only at hSw); go_simp; first | done | with_reducible rfl
        try simp only [Act.put, lsa, lsz, lss]
        refine tkY (i := 7) (oi := .mk _ _ _ _ _ _) (v := ?_) rfl (by kernel_rfl) (fun _ _ _ h => h) (Or.inl ⟨by rfl, ?_⟩) (by assumption) ?_
        rotate_left
        · intro W hSw; (try dsimp only at hSw); go_simp; first | done | with_reducible rfl
        try simp only [Act.put, lsa, lsz, lss]
        refine tkY (i := 8) (oi := .mk _ _ _ _ _ _) (v := ?_) rfl (by kernel_rfl) (fun _ _ _ h => h) (Or.inl ⟨by rfl, ?_⟩) (by assumption) ?_
        rotate_left
        · intro W hSw; (try dsimp only at hSw); go_simp; first | done | with_reducible rfl
        try simp only [Act.put, lsa, lsz, lss]
        refine wpAnyH_ready (rs := [5, 9]) (by kernel_rfl) (by simp) (AllReadyH.cons (o := .mk _ _ _ _ _ _) rfl (fun K hK => ?_) (AllReadyH.cons (o := .mk _ _ _ _ _ _) rfl (fun K hK => ?_) AllReadyH.nil))
        · go_simp
          refine hK.out _ _ ?_ (fun hHeld => ?_)
          · exact hS _ hr8.drew
          clear hK K
          try simp only [Act.put, lsa, lsz, lss]
          refine wpAnyH_ready (rs := [9]) (by kernel_rfl) (by simp) (AllReadyH.cons (o := .mk _ _ _ _ _ _) rfl (fun K hK => ?_) AllReadyH.nil)
          go_simp
          refine hK.out _ _ ?_ (fun hHeld => ?_)
          · exact hS _ (hr8.drew.alloc _)
          clear hK K
          try simp only [Act.put, lsa, lsz, lss]
          have h1 : RW _ g _ p _ _ _ := h8.drew.alloc (.cells #[.int .i64 n1] 3)
          refine wpAnyH_ready (rs := [10]) (by kernel_rfl) (by simp) (AllReadyH.cons (o := .mk _ _ _ _ _ _) rfl (fun K hK => ?_) AllReadyH.nil)
          refine step_append_q rfl _ _ 23 rfl (g + 1) 3 i0 _ 8 Tryz.underlying23 hi0 hz0 hz1 hz2 rfl (by decide) v3 _ 0 rfl h1.r3 [.int .i64 n1] n1 ⟨rfl, hn1⟩ (fun u hu => by (simp at hu; subst hu; rfl)) ⟨_, 0, none⟩ _ rfl (fun j u hj => by (rw [own_addr]; exact blk_cells (Blk.new _ _ _ _ rfl) j u hj)) (Nat.le_trans hs.2 (by omega)) (by omega) (Nat.succ_le_of_lt h1.blk.lt) ?_
          intro u2 w9 hq5
          obtain ⟨A92, c92, rfl⟩ := hq5.own.form
          rw [List.length_append, List.length_singleton] at hq5 ⊢
          have hr7 := (hr8.drew.alloc (.cells #[.int .i64 n1] 3)).apart hq5 (hne3 _ _ hb6)
          refine hK.out _ _ ?_ (fun hHeld => ?_)
          · exact hS _ hr7
          clear hK K
          try simp only [Act.put, lsa, lsz, lss]
          refine tkY (i := 11) (oi := .mk _ _ _ _ _ _) (v := ?_) rfl (by kernel_rfl) (fun _ _ _ h => h) (Or.inl ⟨by rfl, ?_⟩) (by assumption) ?_
          rotate_left
          · intro W hSw; (try dsimp only at hSw); go_simp; first | done | with_reducible rfl
          try simp only [Act.put, lsa, lsz, lss]
          refine tkY (i := 12) (oi := .mk _ _ _ _ _ _) (v := ?_) rfl (by kernel_rfl) (fun _ _ _ h => h) (Or.inl ⟨by rfl, ?_⟩) (by assumption) ?_
          rotate_left
          · intro W hSw; (try dsimp only at hSw); go_simp; first | done | with_reducible rfl
          try simp only [Act.put, lsa, lsz, lss]
          refine tkY (i := 13) (oi := .mk _ _ _ _ _ _) (v := ?_) rfl (by kernel_rfl) (fun _ _ _ h => h) (Or.inl ⟨by rfl, ?_⟩) (by assumption) ?_
          rotate_left
          · intro W hSw; (try dsimp only at hSw); go_simp; first | done | with_reducible rfl
          try simp only [Act.put, lsa, lsz, lss]
          have h5 := h1.put2 ht hq5
          have hb5 := hq5.frm.blk h1.blk (by decide)
          have z5 := hb5.cell 2
          have f5 := hb5.free 2
          simp only [List.getElem?_toArray, List.getElem?_cons_zero, List.getElem?_cons_succ] at z5
          refine wpAnyH_ready (rs := [14]) (by kernel_rfl) (by simp) (AllReadyH.cons (o := .mk _ _ _ _ _ _) rfl (fun K hK => ?_) AllReadyH.nil)
          go_simp
          refine hK.out _ _ ?_ (fun hHeld => ?_)
          · exact hS _ (hr7.set g 2 _ _ _ hb5 (by decide) (Nat.zero_le _)).drew
          clear hK K
          try simp only [Act.put, lsa, lsz, lss]
          refine wpAnyH_done (by kernel_rfl) ?_ _
          have hB5 : Below g w w9 := hq5.frm.keeps (Nat.le_succ g) (Nat.le_of_lt h1.blk.lt) ((hB8).drew.alloc (Nat.le_of_lt h8.blk.lt) _)
          go_wp2_with fail
          go_ret
          exact linePost_ok HX.out rfl (hB5.setCell (p := ⟨g, 2, none⟩) (Nat.le_refl g) _) ⟨_, _, _, h5⟩
        · go_simp
          refine hK.out _ _ ?_ (fun hHeld => ?_)
          · exact hS _ (hr8.drew.alloc _)
          clear hK K
          try simp only [Act.put, lsa, lsz, lss]
          have x9 := (h8.drew.alloc (.cells #[.int .i64 n1] 3)).x2
          refine wpAnyH_ready (rs := [5]) (by kernel_rfl) (by simp) (AllReadyH.cons (o := .mk _ _ _ _ _ _) rfl (fun K hK => ?_) AllReadyH.nil)
          go_simp
          refine hK.out _ _ ?_ (fun hHeld => ?_)
          · exact hS _ (hr8.drew.alloc _)
          clear hK K
          try simp only [Act.put, lsa, lsz, lss]
          clear x9
          have h1 : RW _ g _ p _ _ _ := h8.drew.alloc (.cells #[.int .i64 n1] 3)
          refine wpAnyH_ready (rs := [10]) (by kernel_rfl) (by simp) (AllReadyH.cons (o := .mk _ _ _ _ _ _) rfl (fun K hK => ?_) AllReadyH.nil)
          refine step_append_q rfl _ _ 23 rfl (g + 1) 3 i0 _ 8 Tryz.underlying23 hi0 hz0 hz1 hz2 rfl (by decide) v3 _ 0 rfl h1.r3 [.int .i64 n1] n1 ⟨rfl, hn1⟩ (fun u hu => by (simp at hu; subst hu; rfl)) ⟨_, 0, none⟩ _ rfl (fun j u hj => by (rw [own_addr]; exact blk_cells (Blk.new _ _ _ _ rfl) j u hj)) (Nat.le_trans hs.2 (by omega)) (by omega) (Nat.succ_le_of_lt h1.blk.lt) ?_
          intro u2 w9 hq5
          obtain ⟨A92, c92, rfl⟩ := hq5.own.form
          rw [List.length_append, List.length_singleton] at hq5 ⊢
          have hr7 := (hr8.drew.alloc (.cells #[.int .i64 n1] 3)).apart hq5 (hne3 _ _ hb6)
          refine hK.out _ _ ?_ (fun hHeld => ?_)
          · exact hS _ hr7
          clear hK K
          try simp only [Act.put, lsa, lsz, lss]
          refine tkY (i := 11) (oi := .mk _ _ _ _ _ _) (v := ?_) rfl (by kernel_rfl) (fun _ _ _ h => h) (Or.inl ⟨by rfl, ?_⟩) (by assumption) ?_
          rotate_left
          · intro W hSw; (try dsimp only at hSw); go_simp; first | done | with_reducible rfl
          try simp only [Act.put, lsa, lsz, lss]
          refine tkY (i := 12) (oi := .mk _ _ _ _ _ _) (v := ?_) rfl (by kernel_rfl) (fun _ _ _ h => h) (Or.inl ⟨by rfl, ?_⟩) (by assumption) ?_
          rotate_left
          · intro W hSw; (try dsimp only at hSw); go_simp; first | done | with_reducible rfl
          try simp only [Act.put, lsa, lsz, lss]
          refine tkY (i := 13) (oi := .mk _ _ _ _ _ _) (v := ?_) rfl (by kernel_rfl) (fun _ _ _ h => h) (Or.inl ⟨by rfl, ?_⟩) (by assumption) ?_
          rotate_left
          · intro W hSw; (try dsimp only at hSw); go_simp; first | done | with_reducible rfl
          try simp only [Act.put, lsa, lsz, lss]
          have h5 := h1.put2 ht hq5
          have hb5 := hq5.frm.blk h1.blk (by decide)
          have z5 := hb5.cell 2
          have f5 := hb5.free 2
          simp only [List.getElem?_toArray, List.getElem?_cons_zero, List.getElem?_cons_succ] at z5
          refine wpAnyH_ready (rs := [14]) (by kernel_rfl) (by simp) (AllReadyH.cons (o := .mk _ _ _ _ _ _) rfl (fun K hK => ?_) AllReadyH.nil)
          go_simp
          refine hK.out _ _ ?_ (fun hHeld => ?_)
          · exact hS _ (hr7.set g 2 _ _ _ hb5 (by decide) (Nat.zero_le _)).drew
          clear hK K
          try simp only [Act.put, lsa, lsz, lss]
          refine wpAnyH_done (by kernel_rfl) ?_ _
          have hB5 : Below g w w9 := hq5.frm.keeps (Nat.le_succ g) (Nat.le_of_lt h1.blk.lt) ((hB8).drew.alloc (Nat.le_of_lt h8.blk.lt) _)
          go_wp2_with fail
          go_ret
          exact linePost_ok HX.out rfl (hB5.setCell (p := ⟨g, 2, none⟩) (Nat.le_refl g) _) ⟨_, _, _, h5⟩
set_option maxRecDepth 100000 in
set_option maxHeartbeats 8000000 in
theorem route_any (w : World) (E : EnvR w) (g : Nat) (t : Tab) (p : Int) (h : RWS w g t p) (hs : t.rts.length ≤ 50000) (a : List (List UInt8)) (A : Option Addr) (cap : Nat) (hr : RdS cS w (fun k => k < g) A a) (hcap : a.length ≤ cap) (hl : a.length ≤ 40000) (hw : ∀ x ∈ a, x.length ≤ 40000) :
    Calls Tryz.prog 64 #[.pointer (some ⟨g, 0, none⟩), .slice A a.length cap] w (LinePost g w (routeT t a) p) := by
  obtain ⟨v1, v2, v3, h⟩ := h
  have hgl := h.blk.lt
  obtain ⟨i0, hi0, hz0, hz1, hz2⟩ := info_parts infoRouT
  by_cases h5 : a.length = 5
  case neg =>
    have HX := Lib.hid (route_len (t := t) h5)
    have hlb : ((a.length : Int) != 5) = true := by simp; omega
    clear h5
    go_enter Tryz.func64, Tryz.ntmps64
    go_wp2_with fail
    go_ret
    exact linePost_no HX.out rfl (Below.refl _ _) h.boxS
  match a, h5 with
  | nm :: rest, h5 =>
  have hr4 : rest.length = 4 := by simpa using h5
  obtain ⟨b, off, hA, lb, hnl, y0⟩ := hr.elS (i := 0) (by simp)
  subst hA
  simp only [List.getElem_cons_zero, Nat.add_zero] at hnl y0
  have hrr : RdS cS w (Lt w) (some ⟨b, off + 1, none⟩) rest := (RdS.rest hr).more fun b hb => Nat.lt_of_lt_of_le hb (Nat.le_of_lt hgl)
  have hsl : ∀ W, (Instr.slice 46 (.slice (some ⟨b, off, none⟩) 5 cap) (some (.int .i64 1)) none none).run Tryz.prog W = .ok (.slice (some ⟨b, off + 1, none⟩) 4 (cap - 1)) W := fun W => by
    have hc5 : 4 + 1 ≤ cap := by rw [h5] at hcap; exact hcap
    have := slice1 b off 4 cap hc5 W
    rwa [if_neg (by omega)] at this
  obtain ⟨r, hx⟩ : ∃ r, optI rest = r := ⟨_, rfl⟩
  have HI := Lib.hid fun c => intsC hx (some ⟨b, off + 1, none⟩) c w E hrr (by omega) (fun x hx => hw x (by simp [hx]))
  rw [hr4] at HI
  have HLE : Hid (∀ ns, r = some ns → ns.length = rest.length) := Lib.hid fun ns e => optI_len (hx.trans e)
  cases r with
  | none =>
    have HX := Lib.hid (route_none (t := t) (a := nm :: rest) hx)
    have hlc : (nm :: rest).length = 5 := h5
    rw [hlc]
    clear hx hr hcap h5 hlc hrr
    go_enter Tryz.func64, Tryz.ntmps64
    go_wp2_with fail
    refine (HI.out _).mono ?_
    rintro e w2 ⟨A6, c6, l6, rfl, hr6, hq, hl6⟩
    have hB := hq.mono (Nat.le_of_lt hgl)
    have hK := (h.now hq).boxS
    clear hr6 hl6 hq
    go_wp2_with fail
    go_ret
    exact linePost_no HX.out rfl hB hK
  | some ns =>
    match ns, (HLE.out ns rfl).trans hr4 with
    | [n0, n1, n2, n3], _ =>
    have HX := Lib.hid (route_some (t := t) (n := nm) hx h5)
    have hlc : (nm :: rest).length = 5 := h5
    rw [hlc]
    clear hx hr hcap h5 hlc hrr HLE
    go_enter Tryz.func64, Tryz.ntmps64
    go_wp2_with fail
    refine (HI.out _).mono ?_
    rintro e w2 ⟨A6, c6, l6, rfl, hr6, hq, hl6⟩
    have hB := hq.mono (Nat.le_of_lt hgl)
    obtain rfl := hl6.out _ rfl
    have h2 := h.now hq
    have hgl2 := h2.blk.lt
    have y2 := (hq.cell (p := ⟨b, off, none⟩) (Nat.lt_trans lb hgl)).trans y0
    obtain ⟨b6, c6', h6, h6c⟩ := own_ints hr6 (by simp)
    simp only [Value.slice.injEq] at h6
    obtain ⟨rfl, _, rfl⟩ := h6
    have hn0 := (own_cellI hr6 (i := 0) (by simp)).2
    have hn1 := (own_cellI hr6 (i := 1) (by simp)).2
    have hn2 := (own_cellI hr6 (i := 2) (by simp)).2
    have hn3 := (own_cellI hr6 (i := 3) (by simp)).2
    simp only [List.getElem_cons_zero, List.getElem_cons_succ, List.length_cons, List.length_nil, Nat.zero_add] at hn0 hn1 hn2 hn3 hr6 h6c ⊢
    clear hq hl6 h HI y0
    go_wp2_with fail
    have hS : ∀ w' : World, OwnR cI w' w.heap.size 3 (.slice (some ⟨b6, 0, none⟩) 4 c6) [n0, n1, n2, n3] 0 → Below g w2 w' → (fun w' => w'.cell? ⟨b6, 0, none⟩ = some (.int .i64 n0) ∧ w'.cell? ⟨b6, 1, none⟩ = some (.int .i64 n1) ∧ w'.cell? ⟨b6, 2, none⟩ = some (.int .i64 n2) ∧ w'.cell? ⟨b6, 3, none⟩ = some (.int .i64 n3) ∧ w'.cell? ⟨b, off, none⟩ = some (.string (bs nm)) ∧ (OwnR cI w' w.heap.size 3 (.slice (some ⟨b6, 0, none⟩) 4 c6) [n0, n1, n2, n3] 0 ∧ Below g w2 w')) w' := fun w' hq hb => ⟨cI_at hq 0 4, cI_at hq 1 4, cI_at hq 2 4, cI_at hq 3 4, (hb.cell (p := ⟨b, off, none⟩) lb).trans y2, hq, hb⟩
    have x0 := h2.x0
    refine wp_region_held_drew (S := (fun w' => w'.cell? ⟨b6, 0, none⟩ = some (.int .i64 n0) ∧ w'.cell? ⟨b6, 1, none⟩ = some (.int .i64 n1) ∧ w'.cell? ⟨b6, 2, none⟩ = some (.int .i64 n2) ∧ w'.cell? ⟨b6, 3, none⟩ = some (.int .i64 n3) ∧ w'.cell? ⟨b, off, none⟩ = some (.string (bs nm)) ∧ (OwnR cI w' w.heap.size 3 (.slice (some ⟨b6, 0, none⟩) 4 c6) [n0, n1, n2, n3] 0 ∧ Below g w2 w'))) (by kernel_rfl) (hS _ hr6.drew (Below.refl g w2).drew) (fun hHeld => ?_)
    refine tkY (i := 0) (oi := .mk _ _ _ _ _ _) (v := ?_) rfl (by kernel_rfl) (fun _ _ _ h => h) (Or.inl ⟨by rfl, ?_⟩) (by assumption) ?_
    rotate_left
    · intro W hSw; (try dsimp only at hSw); go_simp; first | done | with_reducible rfl
    try simp only [Act.put, lsa, lsz, lss]
    refine tkY (i := 1) (oi := .mk _ _ _ _ _ _) (v := ?_) rfl (by kernel_rfl) (fun _ _ _ h => h) (Or.inl ⟨by rfl, ?_⟩) (by assumption) ?_
    rotate_left
    · intro W hSw; (try dsimp only at hSw); go_simp; first | done | with_reducible rfl
    try simp only [Act.put, lsa, lsz, lss]
    refine tkY (i := 2) (oi := .mk _ _ _ _ _ _) (v := ?_) rfl (by kernel_rfl) (fun _ _ _ h => h) (Or.inl ⟨by rfl, ?_⟩) (by assumption) ?_
    rotate_left
    · intro W hSw; (try dsimp only at hSw); go_simp; first | done | with_reducible rfl
    try simp only [Act.put, lsa, lsz, lss]
    refine tkY (i := 3) (oi := .mk _ _ _ _ _ _) (v := ?_) rfl (by kernel_rfl) (fun _ _ _ h => h) (Or.inl ⟨by rfl, ?_⟩) (by assumption) ?_
    rotate_left
    · intro W hSw; (try dsimp only at hSw); go_simp; first | done | with_reducible rfl
    try simp only [Act.put, lsa, lsz, lss]
    refine tkY (i := 4) (oi := .mk _ _ _ _ _ _) (v := ?_) rfl (by kernel_rfl) (fun _ _ _ h => h) (Or.inl ⟨by rfl, ?_⟩) (by assumption) ?_
    rotate_left
    · intro W hSw; (try dsimp only at hSw); go_simp; first | done | with_reducible rfl
    try simp only [Act.put, lsa, lsz, lss]
    refine tkY (i := 6) (oi := .mk _ _ _ _ _ _) (v := ?_) rfl (by kernel_rfl) (fun _ _ _ h => h) (Or.inl ⟨by rfl, ?_⟩) (by assumption) ?_
    rotate_left
    · intro W hSw; (try dsimp only at hSw); go_simp; first | done | with_reducible rfl
    try simp only [Act.put, lsa, lsz, lss]
    refine tkY (i := 7) (oi := .mk _ _ _ _ _ _) (v := ?_) rfl (by kernel_rfl) (fun _ _ _ h => h) (Or.inl ⟨by rfl, ?_⟩) (by assumption) ?_
    rotate_left
    · intro W hSw; (try dsimp only at hSw); go_simp; first | done | with_reducible rfl
    try simp only [Act.put, lsa, lsz, lss]
    refine tkY (i := 8) (oi := .mk _ _ _ _ _ _) (v := ?_) rfl (by kernel_rfl) (fun _ _ _ h => h) (Or.inl ⟨by rfl, ?_⟩) (by assumption) ?_
    rotate_left
    · intro W hSw; (try dsimp only at hSw); go_simp; first | done | with_reducible rfl
    try simp only [Act.put, lsa, lsz, lss]
    refine tkY (i := 9) (oi := .mk _ _ _ _ _ _) (v := ?_) rfl (by kernel_rfl) (fun _ _ _ h => h) (Or.inl ⟨by rfl, ?_⟩) (by assumption) ?_
    rotate_left
    · intro W hSw; (try dsimp only at hSw); go_simp; first | done | with_reducible rfl
    try simp only [Act.put, lsa, lsz, lss]
    refine tkY (i := 10) (oi := .mk _ _ _ _ _ _) (v := ?_) rfl (by kernel_rfl) (fun _ _ _ h => h) (Or.inl ⟨by rfl, ?_⟩) (by assumption) ?_
    rotate_left
    · intro W hSw; (try dsimp only at hSw); go_simp; first | done | with_reducible rfl
    try simp only [Act.put, lsa, lsz, lss]
    refine tkY (i := 11) (oi := .mk _ _ _ _ _ _) (v := ?_) rfl (by kernel_rfl) (fun _ _ _ h => h) (Or.inl ⟨by rfl, ?_⟩) (by assumption) ?_
    rotate_left
    · intro W hSw; (try dsimp only at hSw); go_simp; first | done | with_reducible rfl
    try simp only [Act.put, lsa, lsz, lss]
    refine tkY (i := 12) (oi := .mk _ _ _ _ _ _) (v := ?_) rfl (by kernel_rfl) (fun _ _ _ h => h) (Or.inl ⟨by rfl, ?_⟩) (by assumption) ?_
    rotate_left
    · intro W hSw; (try dsimp only at hSw); go_simp; first | done | with_reducible rfl
    try simp only [Act.put, lsa, lsz, lss]
    refine tkY (i := 13) (oi := .mk _ _ _ _ _ _) (v := ?_) rfl (by kernel_rfl) (fun _ _ _ h => h) (Or.inl ⟨by rfl, ?_⟩) (by assumption) ?_
    rotate_left
    · intro W hSw; (try dsimp only at hSw); go_simp; first | done | with_reducible rfl
    try simp only [Act.put, lsa, lsz, lss]
    refine tkY (i := 14) (oi := .mk _ _ _ _ _ _) (v := ?_) rfl (by kernel_rfl) (fun _ _ _ h => h) (Or.inl ⟨by rfl, ?_⟩) (by assumption) ?_
    rotate_left
    · intro W hSw; (try dsimp only at hSw); go_simp; first | done | with_reducible rfl
    try simp only [Act.put, lsa, lsz, lss]
    refine tkY (i := 15) (oi := .mk _ _ _ _ _ _) (v := ?_) rfl (by kernel_rfl) (fun _ _ _ h => h) (Or.inl ⟨by rfl, ?_⟩) (by assumption) ?_
    rotate_left
    · intro W hSw; (try dsimp only at hSw); go_simp; first | done | with_reducible rfl
    try simp only [Act.put, lsa, lsz, lss]
    refine tkY (i := 16) (oi := .mk _ _ _ _ _ _) (v := ?_) rfl (by kernel_rfl) (fun _ _ _ h => h) (Or.inl ⟨by rfl, ?_⟩) (by assumption) ?_
    rotate_left
    · intro W hSw; (try dsimp only at hSw); go_simp; first | done | with_reducible rfl
    try simp only [Act.put, lsa, lsz, lss]
    refine tkY (i := 17) (oi := .mk _ _ _ _ _ _) (v := ?_) rfl (by kernel_rfl) (fun _ _ _ h => h) (Or.inl ⟨by rfl, ?_⟩) (by assumption) ?_
    rotate_left
    · intro W hSw; (try dsimp only at hSw); go_simp; first | done | with_reducible rfl
    try simp only [Act.put, lsa, lsz, lss]
    refine tkY (i := 18) (oi := .mk _ _ _ _ _ _) (v := ?_) rfl (by kernel_rfl) (fun _ _ _ h => h) (Or.inl ⟨by rfl, ?_⟩) (by assumption) ?_
    rotate_left
    · intro W hSw; (try dsimp only at hSw); go_simp; first | done | with_reducible rfl
    try simp only [Act.put, lsa, lsz, lss]
    refine tkY (i := 19) (oi := .mk _ _ _ _ _ _) (v := ?_) rfl (by kernel_rfl) (fun _ _ _ h => h) (Or.inl ⟨by rfl, ?_⟩) (by assumption) ?_
    rotate_left
    · intro W hSw; (try dsimp only at hSw); go_simp; first | done | with_reducible rfl
    try simp only [Act.put, lsa, lsz, lss]
    refine tkY (i := 20) (oi := .mk _ _ _ _ _ _) (v := ?_) rfl (by kernel_rfl) (fun _ _ _ h => h) (Or.inl ⟨by rfl, ?_⟩) (by assumption) ?_
    rotate_left
    · intro W hSw; (try dsimp only at hSw); go_simp; first | done | with_reducible rfl
    try simp only [Act.put, lsa, lsz, lss]
    refine tkY (i := 21) (oi := .mk _ _ _ _ _ _) (v := ?_) rfl (by kernel_rfl) (fun _ _ _ h => h) (Or.inl ⟨by rfl, ?_⟩) (by assumption) ?_
    rotate_left
    · intro W hSw; (try dsimp only at hSw); go_simp; first | done | with_reducible rfl
    try simp only [Act.put, lsa, lsz, lss]
    refine wpAnyH_ready (rs := [5, 22]) (by kernel_rfl) (by simp) (AllReadyH.cons (o := .mk _ _ _ _ _ _) rfl (fun K hK => ?_) (AllReadyH.cons (o := .mk _ _ _ _ _ _) rfl (fun K hK => ?_) AllReadyH.nil))
    · go_simp
      refine hK.out _ _ ?_ (fun hHeld => ?_)
      · exact hS _ hr6.drew (Below.refl g w2).drew
      clear hK K
      try simp only [Act.put, lsa, lsz, lss]
      refine wpAnyH_ready (rs := [22]) (by kernel_rfl) (by simp) (AllReadyH.cons (o := .mk _ _ _ _ _ _) rfl (fun K hK => ?_) AllReadyH.nil)
      go_simp
      refine hK.out _ _ ?_ (fun hHeld => ?_)
      · exact hS _ (hr6.drew.alloc _) ((Below.refl g w2).drew.alloc (Nat.le_of_lt hgl2) _)
      clear hK K
      try simp only [Act.put, lsa, lsz, lss]
      have h1 : RW _ g _ p _ _ _ := h2.drew.alloc (.cells #[.string (bs nm), .int .i64 n0, .int .i64 n1, .slice none 0 0, .slice none 0 0, .slice none 0 0, .int .i64 n2, .int .i64 n3, .slice none 0 0, .slice none 0 0, .slice none 0 0, .slice none 0 0, .slice none 0 0, .slice none 0 0] 41)
      refine wpAnyH_ready (rs := [23]) (by kernel_rfl) (by simp) (AllReadyH.cons (o := .mk _ _ _ _ _ _) rfl (fun K hK => ?_) AllReadyH.nil)
      refine step_append_t rfl _ _ 22 rfl (g + 1) 41 i0 _ 264 Tryz.underlying22 hi0 hz0 hz1 hz2 rfl (by decide) v1 _ rfl h1.r1 [.string (bs nm), .int .i64 n0, .int .i64 n1, .slice none 0 0, .slice none 0 0, .slice none 0 0, .int .i64 n2, .int .i64 n3, .slice none 0 0, .slice none 0 0, .slice none 0 0, .slice none 0 0, .slice none 0 0, .slice none 0 0] _ (rou_new hnl hn0 hn1 hn2 hn3) (fun u hu => by (simp at hu; rcases hu with rfl | rfl | rfl | rfl | rfl | rfl | rfl | rfl | rfl | rfl | rfl | rfl | rfl | rfl <;> rfl)) ⟨_, 0, none⟩ _ rfl (fun j u hj => by (rw [own_addr]; exact blk_cells (Blk.new _ _ _ _ rfl) j u hj)) (Nat.le_trans hs (by omega)) (by omega) (Nat.succ_le_of_lt h1.blk.lt) ?_
      intro u5 w5 hq5
      obtain ⟨A9, c9, rfl⟩ := hq5.own.form
      rw [List.length_append, List.length_singleton] at hq5 ⊢
      have hr7 := (hr6.drew.alloc (.cells #[.string (bs nm), .int .i64 n0, .int .i64 n1, .slice none 0 0, .slice none 0 0, .slice none 0 0, .int .i64 n2, .int .i64 n3, .slice none 0 0, .slice none 0 0, .slice none 0 0, .slice none 0 0, .slice none 0 0, .slice none 0 0] 41)).frm hq5.frm (by decide) (Nat.zero_le _)
      have hB6 : Below g w2 w5 := hq5.frm.keeps (Nat.le_succ g) (Nat.le_of_lt h1.blk.lt) ((Below.refl g w2).drew.alloc (Nat.le_of_lt hgl2) _)
      refine hK.out _ _ ?_ (fun hHeld => ?_)
      · exact hS _ hr7 hB6
      clear hK K
      try simp only [Act.put, lsa, lsz, lss]
      refine tkY (i := 24) (oi := .mk _ _ _ _ _ _) (v := ?_) rfl (by kernel_rfl) (fun _ _ _ h => h) (Or.inl ⟨by rfl, ?_⟩) (by assumption) ?_
      rotate_left
      · intro W hSw; (try dsimp only at hSw); go_simp; first | done | with_reducible rfl
      try simp only [Act.put, lsa, lsz, lss]
      refine tkY (i := 25) (oi := .mk _ _ _ _ _ _) (v := ?_) rfl (by kernel_rfl) (fun _ _ _ h => h) (Or.inl ⟨by rfl, ?_⟩) (by assumption) ?_
      rotate_left
      · intro W hSw; (try dsimp only at hSw); go_simp; first | done | with_reducible rfl
      try simp only [Act.put, lsa, lsz, lss]
      refine tkY (i := 26) (oi := .mk _ _ _ _ _ _) (v := ?_) rfl (by kernel_rfl) (fun _ _ _ h => h) (Or.inl ⟨by rfl, ?_⟩) (by assumption) ?_
      rotate_left
      · intro W hSw; (try dsimp only at hSw); go_simp; first | done | with_reducible rfl
      try simp only [Act.put, lsa, lsz, lss]
      have h5 := h1.put0 hq5
      have hb5 := hq5.frm.blk h1.blk (by decide)
      have z5 := hb5.cell 0
      have f5 := hb5.free 0
      simp only [List.getElem?_toArray, List.getElem?_cons_zero, List.getElem?_cons_succ] at z5
      refine wpAnyH_ready (rs := [27]) (by kernel_rfl) (by simp) (AllReadyH.cons (o := .mk _ _ _ _ _ _) rfl (fun K hK => ?_) AllReadyH.nil)
      go_simp
      refine hK.out _ _ ?_ (fun hHeld => ?_)
      · exact hS _ (hr7.set g 0 _ _ _ hb5 (by decide) (Nat.zero_le _)) (hB6.setCell (p := ⟨g, 0, none⟩) (Nat.le_refl g) _)
      clear hK K
      try simp only [Act.put, lsa, lsz, lss]
      refine wpAnyH_done (by kernel_rfl) ?_ _
      go_wp2_with fail
      go_ret
      exact linePost_ok HX.out rfl ((hB.trans hB6).setCell (p := ⟨g, 0, none⟩) (Nat.le_refl g) _) ⟨_, _, _, h5⟩
    · go_simp
      refine hK.out _ _ ?_ (fun hHeld => ?_)
      · exact hS _ (hr6.drew.alloc _) ((Below.refl g w2).drew.alloc (Nat.le_of_lt hgl2) _)
      clear hK K
      try simp only [Act.put, lsa, lsz, lss]
      have x9 := (h2.drew.alloc (.cells #[.string (bs nm), .int .i64 n0, .int .i64 n1, .slice none 0 0, .slice none 0 0, .slice none 0 0, .int .i64 n2, .int .i64 n3, .slice none 0 0, .slice none 0 0, .slice none 0 0, .slice none 0 0, .slice none 0 0, .slice none 0 0] 41)).x0
      refine wpAnyH_ready (rs := [5]) (by kernel_rfl) (by simp) (AllReadyH.cons (o := .mk _ _ _ _ _ _) rfl (fun K hK => ?_) AllReadyH.nil)
      go_simp
      refine hK.out _ _ ?_ (fun hHeld => ?_)
      · exact hS _ (hr6.drew.alloc _) ((Below.refl g w2).drew.alloc (Nat.le_of_lt hgl2) _)
      clear hK K
      try simp only [Act.put, lsa, lsz, lss]
      clear x9
      have h1 : RW _ g _ p _ _ _ := h2.drew.alloc (.cells #[.string (bs nm), .int .i64 n0, .int .i64 n1, .slice none 0 0, .slice none 0 0, .slice none 0 0, .int .i64 n2, .int .i64 n3, .slice none 0 0, .slice none 0 0, .slice none 0 0, .slice none 0 0, .slice none 0 0, .slice none 0 0] 41)
      refine wpAnyH_ready (rs := [23]) (by kernel_rfl) (by simp) (AllReadyH.cons (o := .mk _ _ _ _ _ _) rfl (fun K hK => ?_) AllReadyH.nil)
      refine step_append_t rfl _ _ 22 rfl (g + 1) 41 i0 _ 264 Tryz.underlying22 hi0 hz0 hz1 hz2 rfl (by decide) v1 _ rfl h1.r1 [.string (bs nm), .int .i64 n0, .int .i64 n1, .slice none 0 0, .slice none 0 0, .slice none 0 0, .int .i64 n2, .int .i64 n3, .slice none 0 0, .slice none 0 0, .slice none 0 0, .slice none 0 0, .slice none 0 0, .slice none 0 0] _ (rou_new hnl hn0 hn1 hn2 hn3) (fun u hu => by (simp at hu; rcases hu with rfl | rfl | rfl | rfl | rfl | rfl | rfl | rfl | rfl | rfl | rfl | rfl | rfl | rfl <;> rfl)) ⟨_, 0, none⟩ _ rfl (fun j u hj => by (rw [own_addr]; exact blk_cells (Blk.new _ _ _ _ rfl) j u hj)) (Nat.le_trans hs (by omega)) (by omega) (Nat.succ_le_of_lt h1.blk.lt) ?_
      intro u5 w5 hq5
      obtain ⟨A9, c9, rfl⟩ := hq5.own.form
      rw [List.length_append, List.length_singleton] at hq5 ⊢
      have hr7 := (hr6.drew.alloc (.cells #[.string (bs nm), .int .i64 n0, .int .i64 n1, .slice none 0 0, .slice none 0 0, .slice none 0 0, .int .i64 n2, .int .i64 n3, .slice none 0 0, .slice none 0 0, .slice none 0 0, .slice none 0 0, .slice none 0 0, .slice none 0 0] 41)).frm hq5.frm (by decide) (Nat.zero_le _)
      have hB6 : Below g w2 w5 := hq5.frm.keeps (Nat.le_succ g) (Nat.le_of_lt h1.blk.lt) ((Below.refl g w2).drew.alloc (Nat.le_of_lt hgl2) _)
      refine hK.out _ _ ?_ (fun hHeld => ?_)
      · exact hS _ hr7 hB6
      clear hK K
      try simp only [Act.put, lsa, lsz, lss]
      refine tkY (i := 24) (oi := .mk _ _ _ _ _ _) (v := ?_) rfl (by kernel_rfl) (fun _ _ _ h => h) (Or.inl ⟨by rfl, ?_⟩) (by assumption) ?_
      rotate_left
      · intro W hSw; (try dsimp only at hSw); go_simp; first | done | with_reducible rfl
      try simp only [Act.put, lsa, lsz, lss]
      refine tkY (i := 25) (oi := .mk _ _ _ _ _ _) (v := ?_) rfl (by kernel_rfl) (fun _ _ _ h => h) (Or.inl ⟨by rfl, ?_⟩) (by assumption) ?_
      rotate_left
      · intro W hSw; (try dsimp only at hSw); go_simp; first | done | with_reducible rfl
      try simp only [Act.put, lsa, lsz, lss]
      refine tkY (i := 26) (oi := .mk _ _ _ _ _ _) (v := ?_) rfl (by kernel_rfl) (fun _ _ _ h => h) (Or.inl ⟨by rfl, ?_⟩) (by assumption) ?_
      rotate_left
      · intro W hSw; (try dsimp only at hSw); go_simp; first | done | with_reducible rfl
      try simp only [Act.put, lsa, lsz, lss]
      have h5 := h1.put0 hq5
      have hb5 := hq5.frm.blk h1.blk (by decide)
      have z5 := hb5.cell 0
      have f5 := hb5.free 0
      simp only [List.getElem?_toArray, List.getElem?_cons_zero, List.getElem?_cons_succ] at z5
      refine wpAnyH_ready (rs := [27]) (by kernel_rfl) (by simp) (AllReadyH.cons (o := .mk _ _ _ _ _ _) rfl (fun K hK => ?_) AllReadyH.nil)
      go_simp
      refine hK.out _ _ ?_ (fun hHeld => ?_)
      · exact hS _ (hr7.set g 0 _ _ _ hb5 (by decide) (Nat.zero_le _)) (hB6.setCell (p := ⟨g, 0, none⟩) (Nat.le_refl g) _)
      clear hK K
      try simp only [Act.put, lsa, lsz, lss]
      refine wpAnyH_done (by kernel_rfl) ?_ _
      go_wp2_with fail
      go_ret
      exact linePost_ok HX.out rfl ((hB.trans hB6).setCell (p := ⟨g, 0, none⟩) (Nat.le_refl g) _) ⟨_, _, _, h5⟩
end Go.Proofs.YtlblfblkallnhaaGreatDoor
