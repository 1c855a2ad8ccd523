/- reader.list: a list of the last route. -/
import Derived.Test.YtlblfblkallnhaaGreatDoorTbRdB
import Derived.BigQuiet
namespace Go.Proofs.YtlblfblkallnhaaGreatDoor
set_option linter.unusedVariables false
set_option linter.unusedSimpArgs false
open Go.RowKit
attribute [local go_sem] bs_size bs_get bs_append bs_extract bs_toList
attribute [-go_sem] run_equalIn_agg
theorem OwnT.last {α : Type} {c : Cod α} {w : World} {base : Nat} {e : TypeId} {v : Value} {l : List α} {a : α} (h : OwnT c w base e v (l ++ [a])) : ∃ g cap cur, v = .slice (some ⟨g, 0, none⟩) (l.length + 1) cap ∧ base ≤ g ∧ Blk w g e cur ∧ l.length + 1 ≤ cap ∧ cap ≤ maxLen ∧ (l.length + 1) * c.size ≤ cur.size := by
  obtain ⟨xs, h1, h2⟩ := h
  rw [List.length_append, List.length_singleton] at h1
  rcases h1.2 with ⟨_, h0⟩ | ⟨g, cap, cur, rfl, hb, hg, hnc, hcm, hcs, htake⟩
  · omega
  · exact ⟨g, cap, cur, rfl, hb, hg, hnc, hcm, by rw [hcs]; exact Nat.mul_le_mul_right _ hnc⟩
theorem RW.setL {w : World} {g : Nat} {t : Tab} {p : Int} {v1 v2 v3 u : Value} (h : RW w g t p v1 v2 v3) {rs : List Rou} {r0 r' : Rou} (ht : t.rts = rs ++ [r0]) {j : Nat} (hj : j < 14) (hr : ∀ ys, cR.rd w (SepT w (g + 1) 41) ys r0 → cR.rd w (SepT w (g + 1) 41) (ys.set j u) r') {g1 n c : Nat} (hv : v1 = .slice (some ⟨g1, 0, none⟩) n c) :
    RW (w.setCell ⟨g1, rs.length * 14 + j, none⟩ u) g { t with rts := rs ++ [r'] } p v1 v2 v3 := by
  have h1 := h.r1
  rw [ht] at h1
  obtain ⟨g2, cap, cur, hv2, hg2, hb2, _, _, h3⟩ := h1.setLast j u hr hj
  have e : g2 = g1 := by rw [hv] at hv2; simp only [Value.slice.injEq, Option.some.injEq, Addr.mk.injEq, and_true] at hv2; exact hv2.1.symm
  subst e
  exact ⟨h.blk.far (p := ⟨g2, _, none⟩) (show g ≠ g2 by omega) _, h3, h.r2.set g2 _ _ _ _ hb2 (by decide) (Nat.zero_le _), h.r3.set g2 _ _ _ _ hb2 (by decide) (Nat.zero_le _), h.ap, h.i1, h.i2⟩
theorem listT_eq {t : Tab} {k : Int} {a : List (List UInt8)} {rs : List Rou} {r0 : Rou} (ht : t.rts = rs ++ [r0]) (ha : a ≠ []) : listT t k a = (listR r0 k a).map fun r => { t with rts := rs ++ [r] } := by
  unfold listT
  rw [if_neg ha, ht]
  simp
theorem stepsOfC {l : List (List UInt8)} {r : Option (List Stp)} (h : optS l = r) (A : Option Addr) (cap : Nat) (w : World) (E : EnvR w) (hr : RdS cS w (Lt w) A l) (hl : l.length ≤ 40000) (hw : ∀ x ∈ l, wordB x = true) : Calls Tryz.prog 86 #[.slice A l.length cap] w (OptR cStp 50 w r) := h ▸ stepsOf_any l A cap w E hr hl hw
theorem settingsOfC {l : List (List UInt8)} {r : Option (List Stg)} (h : optG l = r) (A : Option Addr) (cap : Nat) (w : World) (E : EnvR w) (hr : RdS cS w (Lt w) A l) (hl : l.length ≤ 40000) (hw : ∀ x ∈ l, wordB x = true) : Calls Tryz.prog 87 #[.slice A l.length cap] w (OptR cStg 99 w r) := h ▸ settingsOf_any l A cap w E hr hl hw
theorem endsOfC {l : List (List UInt8)} {r : Option (List End2)} (h : optE l = r) (A : Option Addr) (cap : Nat) (w : World) (E : EnvR w) (hr : RdS cS w (Lt w) A l) (hl : l.length ≤ 40000) (hw : ∀ x ∈ l, wordB x = true) : Calls Tryz.prog 88 #[.slice A l.length cap] w (OptR cEnd 107 w r) := h ▸ endsOf_any l A cap w E hr hl hw
theorem intsOfC {l : List (List UInt8)} {r : Option (List Int)} (h : optI l = r) (A : Option Addr) (cap : Nat) (w : World) (E : EnvR w) (hr : RdS cS w (Lt w) A l) (hl : l.length ≤ 40000) (hw : ∀ x ∈ l, wordB x = true) : Calls Tryz.prog 85 #[.slice A l.length cap] w (OptR cI 3 w r) := intsC h A cap w E hr hl fun x hx => (word_ok (hw x hx)).1
theorem list_empty (w : World) (g : Nat) (t : Tab) (p k : Int) (h : RWS w g t p) (A : Option Addr) (cap : Nat) : Calls Tryz.prog 65 #[.pointer (some ⟨g, 0, none⟩), .int .i64 k, .slice A 0 cap] w (LinePost g w (listT t k []) p) := by
  go_enter Tryz.func65, Tryz.ntmps65
  go_wp2_with fail
  go_ret
  obtain ⟨_, _, _, h⟩ := h
  exact linePost_no rfl rfl (Below.refl _ _) h.boxS
set_option maxRecDepth 100000 in
set_option maxHeartbeats 8000000 in
theorem list_4 (w : World) (E : EnvR w) (g : Nat) (t : Tab) (p : Int) (h : RWS w g t p) (rs : List Rou) (r0 : Rou) (ht : t.rts = rs ++ [r0]) (hrs : rs.length ≤ 40000) (a : List (List UInt8)) (ha : a ≠ []) (A : Option Addr) (cap : Nat) (hr : RdS cS w (fun k => k < g) A a) (hl : a.length ≤ 40000) (hw : ∀ x ∈ a, wordB x = true) :
    Calls Tryz.prog 65 #[.pointer (some ⟨g, 0, none⟩), .int .i64 4, .slice A a.length cap] w (LinePost g w (listT t 4 a) p) := by
  obtain ⟨v1, v2, v3, h⟩ := h
  have hgl := h.blk.lt
  have hrw : RdS cS w (Lt w) A a := hr.more fun b hb => Nat.lt_of_lt_of_le hb (Nat.le_of_lt hgl)
  obtain ⟨r, hx⟩ : ∃ r, optS a = r := ⟨_, rfl⟩
  have HI := Lib.hid fun W (hb : Below w.heap.size w W) => stepsOfC hx A cap W (E.now hb) (hrw.now hb) hl hw
  have HL := listT_eq (k := 4) ht ha
  rw [show listR r0 4 a = (optS a).map fun x => { r0 with path := x } from rfl, hx] at HL
  have HT := Lib.hid ht
  have h1 := h.r1
  rw [ht] at h1
  obtain ⟨g1, c1, cur, rfl, hg1, hb1, hc1, hcm, hcs⟩ := h1.last
  have hal : ((a.length : Int) == 0) = false := by rw [beq_eq_false_iff_ne]; have := List.length_pos_iff.2 ha; omega
  have x0 := h.x0
  have HLR := Lib.hid HL
  have hgg : g ≠ g1 := by omega
  have hgg' : g1 ≠ g := by omega
  have hcz : cR.size = 14 := rfl
  rw [hcz] at hcs
  have hci : rs.length < c1 := by omega
  unfold maxLen at hcm
  clear ht HL h1 hx hr hrw ha hcz
  obtain ⟨m, hm⟩ : ∃ m, rs.length = m := ⟨_, rfl⟩
  rw [hm] at x0 hrs hci hcs hc1 h
  have HM := Lib.hid hm
  have hmw : IntKind.i64.wrap (m : Int) = (m : Int) := IntWalk.i64_in _ (by omega)
  have hml : (m : Int) < ((m : Int) + 1) := by omega
  clear hm
  go_enter Tryz.func65, Tryz.ntmps65
  go_wp2_with fail
  (refine wp_region_quiet_lit (by kernel_rfl) (by kernel_rfl) ?_; (repeat (any_goals (first | go_big_quiet_step (fail) | quiet_step (fail) | (refine wpQuiet_step (fun K hK => ?_); go_simp; split <;> (refine hK _ ?_; clear hK K))))); all_goals (refine wpQuiet_nil ?_; intro _ hw'; obtain ⟨nq, hw''⟩ := hw'; subst hw''))
  all_goals (go_wp2_with fail)
  refine (HI.out _ (Below.drewN (Below.refl _ _) _)).mono ?_
  rintro e w2 ⟨A6, c6, l6, rfl, hr6, hq, hl6⟩
  have hq0 : Below w.heap.size w w2 := (Below.drewN (Below.refl _ _) _).trans hq
  have h2 := h.now hq0
  have hb2 := hb1.now hq0
  have hB := hq0.mono (Nat.le_of_lt hgl)
  obtain ⟨A7, c7, h7, hn7, hrd7⟩ := OwnR.into (base0 := g + 1) (T := 41) hr6 (by decide) hgl
  simp only [Value.slice.injEq] at h7
  obtain ⟨rfl, _, rfl⟩ := h7
  have hlt : m * 14 + 3 < cur.size := by omega
  have z1 := hb2.cell (m * 14 + 3)
  have f1 := hb2.free (m * 14 + 3)
  rw [Array.getElem?_eq_getElem hlt] at z1
  have HS := h2.setL HT.out (j := 3) (by omega) (u := .slice A6 l6.length c6) (fun ys hy => rou_set1 hy hn7 hrd7) rfl
  rw [HM.out] at HS
  have HS2 := Lib.hid HS
  have HB := Lib.hid (hB.setCell (p := ⟨g1, m * 14 + 3, none⟩) (show g ≤ g1 by omega) (.slice A6 l6.length c6))
  generalize cur[m * 14 + 3] = zz at z1
  clear HS h2 hrd7 hr6 hq hq0 hB hb2 hlt
  cases r with
  | none =>
    have HX := Lib.hid HLR.out
    clear hl6 HLR HI h hb1
    go_wp2_with fail
    go_ret
    exact linePost_no HX.out rfl HB.out HS2.out.boxS
  | some x =>
    obtain rfl := hl6.out x rfl
    have HX := Lib.hid HLR.out
    clear hl6 HLR HI h hb1
    go_wp2_with fail
    go_ret
    exact linePost_ok HX.out rfl HB.out ⟨_, _, _, HS2.out⟩
set_option maxRecDepth 100000 in
set_option maxHeartbeats 8000000 in
theorem list_5 (w : World) (E : EnvR w) (g : Nat) (t : Tab) (p : Int) (h : RWS w g t p) (rs : List Rou) (r0 : Rou) (ht : t.rts = rs ++ [r0]) (hrs : rs.length ≤ 40000) (a : List (List UInt8)) (ha : a ≠ []) (A : Option Addr) (cap : Nat) (hr : RdS cS w (fun k => k < g) A a) (hl : a.length ≤ 40000) (hw : ∀ x ∈ a, wordB x = true) :
    Calls Tryz.prog 65 #[.pointer (some ⟨g, 0, none⟩), .int .i64 5, .slice A a.length cap] w (LinePost g w (listT t 5 a) p) := by
  obtain ⟨v1, v2, v3, h⟩ := h
  have hgl := h.blk.lt
  have hrw : RdS cS w (Lt w) A a := hr.more fun b hb => Nat.lt_of_lt_of_le hb (Nat.le_of_lt hgl)
  obtain ⟨r, hx⟩ : ∃ r, optG a = r := ⟨_, rfl⟩
  have HI := Lib.hid fun W (hb : Below w.heap.size w W) => settingsOfC hx A cap W (E.now hb) (hrw.now hb) hl hw
  have HL := listT_eq (k := 5) ht ha
  rw [show listR r0 5 a = (optG a).map fun x => { r0 with pts := x } from rfl, hx] at HL
  have HT := Lib.hid ht
  have h1 := h.r1
  rw [ht] at h1
  obtain ⟨g1, c1, cur, rfl, hg1, hb1, hc1, hcm, hcs⟩ := h1.last
  have hal : ((a.length : Int) == 0) = false := by rw [beq_eq_false_iff_ne]; have := List.length_pos_iff.2 ha; omega
  have x0 := h.x0
  have HLR := Lib.hid HL
  have hgg : g ≠ g1 := by omega
  have hgg' : g1 ≠ g := by omega
  have hcz : cR.size = 14 := rfl
  rw [hcz] at hcs
  have hci : rs.length < c1 := by omega
  unfold maxLen at hcm
  clear ht HL h1 hx hr hrw ha hcz
  obtain ⟨m, hm⟩ : ∃ m, rs.length = m := ⟨_, rfl⟩
  rw [hm] at x0 hrs hci hcs hc1 h
  have HM := Lib.hid hm
  have hmw : IntKind.i64.wrap (m : Int) = (m : Int) := IntWalk.i64_in _ (by omega)
  have hml : (m : Int) < ((m : Int) + 1) := by omega
  clear hm
  go_enter Tryz.func65, Tryz.ntmps65
  go_wp2_with fail
  (refine wp_region_quiet_lit (by kernel_rfl) (by kernel_rfl) ?_; (repeat (any_goals (first | go_big_quiet_step (fail) | quiet_step (fail) | (refine wpQuiet_step (fun K hK => ?_); go_simp; split <;> (refine hK _ ?_; clear hK K))))); all_goals (refine wpQuiet_nil ?_; intro _ hw'; obtain ⟨nq, hw''⟩ := hw'; subst hw''))
  all_goals (go_wp2_with fail)
  refine (HI.out _ (Below.drewN (Below.refl _ _) _)).mono ?_
  rintro e w2 ⟨A6, c6, l6, rfl, hr6, hq, hl6⟩
  have hq0 : Below w.heap.size w w2 := (Below.drewN (Below.refl _ _) _).trans hq
  have h2 := h.now hq0
  have hb2 := hb1.now hq0
  have hB := hq0.mono (Nat.le_of_lt hgl)
  obtain ⟨A7, c7, h7, hn7, hrd7⟩ := OwnR.into (base0 := g + 1) (T := 41) hr6 (by decide) hgl
  simp only [Value.slice.injEq] at h7
  obtain ⟨rfl, _, rfl⟩ := h7
  have hlt : m * 14 + 4 < cur.size := by omega
  have z1 := hb2.cell (m * 14 + 4)
  have f1 := hb2.free (m * 14 + 4)
  rw [Array.getElem?_eq_getElem hlt] at z1
  have HS := h2.setL HT.out (j := 4) (by omega) (u := .slice A6 l6.length c6) (fun ys hy => rou_set2 hy hn7 hrd7) rfl
  rw [HM.out] at HS
  have HS2 := Lib.hid HS
  have HB := Lib.hid (hB.setCell (p := ⟨g1, m * 14 + 4, none⟩) (show g ≤ g1 by omega) (.slice A6 l6.length c6))
  generalize cur[m * 14 + 4] = zz at z1
  clear HS h2 hrd7 hr6 hq hq0 hB hb2 hlt
  cases r with
  | none =>
    have HX := Lib.hid HLR.out
    clear hl6 HLR HI h hb1
    go_wp2_with fail
    go_ret
    exact linePost_no HX.out rfl HB.out HS2.out.boxS
  | some x =>
    obtain rfl := hl6.out x rfl
    have HX := Lib.hid HLR.out
    clear hl6 HLR HI h hb1
    go_wp2_with fail
    go_ret
    exact linePost_ok HX.out rfl HB.out ⟨_, _, _, HS2.out⟩
set_option maxRecDepth 100000 in
set_option maxHeartbeats 8000000 in
theorem list_6 (w : World) (E : EnvR w) (g : Nat) (t : Tab) (p : Int) (h : RWS w g t p) (rs : List Rou) (r0 : Rou) (ht : t.rts = rs ++ [r0]) (hrs : rs.length ≤ 40000) (a : List (List UInt8)) (ha : a ≠ []) (A : Option Addr) (cap : Nat) (hr : RdS cS w (fun k => k < g) A a) (hl : a.length ≤ 40000) (hw : ∀ x ∈ a, wordB x = true) :
    Calls Tryz.prog 65 #[.pointer (some ⟨g, 0, none⟩), .int .i64 6, .slice A a.length cap] w (LinePost g w (listT t 6 a) p) := by
  obtain ⟨v1, v2, v3, h⟩ := h
  have hgl := h.blk.lt
  have hrw : RdS cS w (Lt w) A a := hr.more fun b hb => Nat.lt_of_lt_of_le hb (Nat.le_of_lt hgl)
  obtain ⟨r, hx⟩ : ∃ r, optI a = r := ⟨_, rfl⟩
  have HI := Lib.hid fun W (hb : Below w.heap.size w W) => intsOfC hx A cap W (E.now hb) (hrw.now hb) hl hw
  have HL := listT_eq (k := 6) ht ha
  rw [show listR r0 6 a = (optI a).map fun x => { r0 with secs := x } from rfl, hx] at HL
  have HT := Lib.hid ht
  have h1 := h.r1
  rw [ht] at h1
  obtain ⟨g1, c1, cur, rfl, hg1, hb1, hc1, hcm, hcs⟩ := h1.last
  have hal : ((a.length : Int) == 0) = false := by rw [beq_eq_false_iff_ne]; have := List.length_pos_iff.2 ha; omega
  have x0 := h.x0
  have HLR := Lib.hid HL
  have hgg : g ≠ g1 := by omega
  have hgg' : g1 ≠ g := by omega
  have hcz : cR.size = 14 := rfl
  rw [hcz] at hcs
  have hci : rs.length < c1 := by omega
  unfold maxLen at hcm
  clear ht HL h1 hx hr hrw ha hcz
  obtain ⟨m, hm⟩ : ∃ m, rs.length = m := ⟨_, rfl⟩
  rw [hm] at x0 hrs hci hcs hc1 h
  have HM := Lib.hid hm
  have hmw : IntKind.i64.wrap (m : Int) = (m : Int) := IntWalk.i64_in _ (by omega)
  have hml : (m : Int) < ((m : Int) + 1) := by omega
  clear hm
  go_enter Tryz.func65, Tryz.ntmps65
  go_wp2_with fail
  (refine wp_region_quiet_lit (by kernel_rfl) (by kernel_rfl) ?_; (repeat (any_goals (first | go_big_quiet_step (fail) | quiet_step (fail) | (refine wpQuiet_step (fun K hK => ?_); go_simp; split <;> (refine hK _ ?_; clear hK K))))); all_goals (refine wpQuiet_nil ?_; intro _ hw'; obtain ⟨nq, hw''⟩ := hw'; subst hw''))
  all_goals (go_wp2_with fail)
  refine (HI.out _ (Below.drewN (Below.refl _ _) _)).mono ?_
  rintro e w2 ⟨A6, c6, l6, rfl, hr6, hq, hl6⟩
  have hq0 : Below w.heap.size w w2 := (Below.drewN (Below.refl _ _) _).trans hq
  have h2 := h.now hq0
  have hb2 := hb1.now hq0
  have hB := hq0.mono (Nat.le_of_lt hgl)
  obtain ⟨A7, c7, h7, hn7, hrd7⟩ := OwnR.into (base0 := g + 1) (T := 41) hr6 (by decide) hgl
  simp only [Value.slice.injEq] at h7
  obtain ⟨rfl, _, rfl⟩ := h7
  have hlt : m * 14 + 5 < cur.size := by omega
  have z1 := hb2.cell (m * 14 + 5)
  have f1 := hb2.free (m * 14 + 5)
  rw [Array.getElem?_eq_getElem hlt] at z1
  have HS := h2.setL HT.out (j := 5) (by omega) (u := .slice A6 l6.length c6) (fun ys hy => rou_set3 hy hn7 hrd7) rfl
  rw [HM.out] at HS
  have HS2 := Lib.hid HS
  have HB := Lib.hid (hB.setCell (p := ⟨g1, m * 14 + 5, none⟩) (show g ≤ g1 by omega) (.slice A6 l6.length c6))
  generalize cur[m * 14 + 5] = zz at z1
  clear HS h2 hrd7 hr6 hq hq0 hB hb2 hlt
  cases r with
  | none =>
    have HX := Lib.hid HLR.out
    clear hl6 HLR HI h hb1
    go_wp2_with fail
    go_ret
    exact linePost_no HX.out rfl HB.out HS2.out.boxS
  | some x =>
    obtain rfl := hl6.out x rfl
    have HX := Lib.hid HLR.out
    clear hl6 HLR HI h hb1
    go_wp2_with fail
    go_ret
    exact linePost_ok HX.out rfl HB.out ⟨_, _, _, HS2.out⟩
set_option maxRecDepth 100000 in
set_option maxHeartbeats 8000000 in
theorem list_7 (w : World) (E : EnvR w) (g : Nat) (t : Tab) (p : Int) (h : RWS w g t p) (rs : List Rou) (r0 : Rou) (ht : t.rts = rs ++ [r0]) (hrs : rs.length ≤ 40000) (a : List (List UInt8)) (ha : a ≠ []) (A : Option Addr) (cap : Nat) (hr : RdS cS w (fun k => k < g) A a) (hl : a.length ≤ 40000) (hw : ∀ x ∈ a, wordB x = true) :
    Calls Tryz.prog 65 #[.pointer (some ⟨g, 0, none⟩), .int .i64 7, .slice A a.length cap] w (LinePost g w (listT t 7 a) p) := by
  obtain ⟨v1, v2, v3, h⟩ := h
  have hgl := h.blk.lt
  have hrw : RdS cS w (Lt w) A a := hr.more fun b hb => Nat.lt_of_lt_of_le hb (Nat.le_of_lt hgl)
  obtain ⟨r, hx⟩ : ∃ r, optS a = r := ⟨_, rfl⟩
  have HI := Lib.hid fun W (hb : Below w.heap.size w W) => stepsOfC hx A cap W (E.now hb) (hrw.now hb) hl hw
  have HL := listT_eq (k := 7) ht ha
  rw [show listR r0 7 a = (optS a).map fun x => { r0 with over := x } from rfl, hx] at HL
  have HT := Lib.hid ht
  have h1 := h.r1
  rw [ht] at h1
  obtain ⟨g1, c1, cur, rfl, hg1, hb1, hc1, hcm, hcs⟩ := h1.last
  have hal : ((a.length : Int) == 0) = false := by rw [beq_eq_false_iff_ne]; have := List.length_pos_iff.2 ha; omega
  have x0 := h.x0
  have HLR := Lib.hid HL
  have hgg : g ≠ g1 := by omega
  have hgg' : g1 ≠ g := by omega
  have hcz : cR.size = 14 := rfl
  rw [hcz] at hcs
  have hci : rs.length < c1 := by omega
  unfold maxLen at hcm
  clear ht HL h1 hx hr hrw ha hcz
  obtain ⟨m, hm⟩ : ∃ m, rs.length = m := ⟨_, rfl⟩
  rw [hm] at x0 hrs hci hcs hc1 h
  have HM := Lib.hid hm
  have hmw : IntKind.i64.wrap (m : Int) = (m : Int) := IntWalk.i64_in _ (by omega)
  have hml : (m : Int) < ((m : Int) + 1) := by omega
  clear hm
  go_enter Tryz.func65, Tryz.ntmps65
  go_wp2_with fail
  (refine wp_region_quiet_lit (by kernel_rfl) (by kernel_rfl) ?_; (repeat (any_goals (first | go_big_quiet_step (fail) | quiet_step (fail) | (refine wpQuiet_step (fun K hK => ?_); go_simp; split <;> (refine hK _ ?_; clear hK K))))); all_goals (refine wpQuiet_nil ?_; intro _ hw'; obtain ⟨nq, hw''⟩ := hw'; subst hw''))
  all_goals (go_wp2_with fail)
  refine (HI.out _ (Below.drewN (Below.refl _ _) _)).mono ?_
  rintro e w2 ⟨A6, c6, l6, rfl, hr6, hq, hl6⟩
  have hq0 : Below w.heap.size w w2 := (Below.drewN (Below.refl _ _) _).trans hq
  have h2 := h.now hq0
  have hb2 := hb1.now hq0
  have hB := hq0.mono (Nat.le_of_lt hgl)
  obtain ⟨A7, c7, h7, hn7, hrd7⟩ := OwnR.into (base0 := g + 1) (T := 41) hr6 (by decide) hgl
  simp only [Value.slice.injEq] at h7
  obtain ⟨rfl, _, rfl⟩ := h7
  have hlt : m * 14 + 8 < cur.size := by omega
  have z1 := hb2.cell (m * 14 + 8)
  have f1 := hb2.free (m * 14 + 8)
  rw [Array.getElem?_eq_getElem hlt] at z1
  have HS := h2.setL HT.out (j := 8) (by omega) (u := .slice A6 l6.length c6) (fun ys hy => rou_set4 hy hn7 hrd7) rfl
  rw [HM.out] at HS
  have HS2 := Lib.hid HS
  have HB := Lib.hid (hB.setCell (p := ⟨g1, m * 14 + 8, none⟩) (show g ≤ g1 by omega) (.slice A6 l6.length c6))
  generalize cur[m * 14 + 8] = zz at z1
  clear HS h2 hrd7 hr6 hq hq0 hB hb2 hlt
  cases r with
  | none =>
    have HX := Lib.hid HLR.out
    clear hl6 HLR HI h hb1
    go_wp2_with fail
    go_ret
    exact linePost_no HX.out rfl HB.out HS2.out.boxS
  | some x =>
    obtain rfl := hl6.out x rfl
    have HX := Lib.hid HLR.out
    clear hl6 HLR HI h hb1
    go_wp2_with fail
    go_ret
    exact linePost_ok HX.out rfl HB.out ⟨_, _, _, HS2.out⟩
set_option maxRecDepth 100000 in
set_option maxHeartbeats 8000000 in
theorem list_8 (w : World) (E : EnvR w) (g : Nat) (t : Tab) (p : Int) (h : RWS w g t p) (rs : List Rou) (r0 : Rou) (ht : t.rts = rs ++ [r0]) (hrs : rs.length ≤ 40000) (a : List (List UInt8)) (ha : a ≠ []) (A : Option Addr) (cap : Nat) (hr : RdS cS w (fun k => k < g) A a) (hl : a.length ≤ 40000) (hw : ∀ x ∈ a, wordB x = true) :
    Calls Tryz.prog 65 #[.pointer (some ⟨g, 0, none⟩), .int .i64 8, .slice A a.length cap] w (LinePost g w (listT t 8 a) p) := by
  obtain ⟨v1, v2, v3, h⟩ := h
  have hgl := h.blk.lt
  have hrw : RdS cS w (Lt w) A a := hr.more fun b hb => Nat.lt_of_lt_of_le hb (Nat.le_of_lt hgl)
  obtain ⟨r, hx⟩ : ∃ r, optG a = r := ⟨_, rfl⟩
  have HI := Lib.hid fun W (hb : Below w.heap.size w W) => settingsOfC hx A cap W (E.now hb) (hrw.now hb) hl hw
  have HL := listT_eq (k := 8) ht ha
  rw [show listR r0 8 a = (optG a).map fun x => { r0 with opts := x } from rfl, hx] at HL
  have HT := Lib.hid ht
  have h1 := h.r1
  rw [ht] at h1
  obtain ⟨g1, c1, cur, rfl, hg1, hb1, hc1, hcm, hcs⟩ := h1.last
  have hal : ((a.length : Int) == 0) = false := by rw [beq_eq_false_iff_ne]; have := List.length_pos_iff.2 ha; omega
  have x0 := h.x0
  have HLR := Lib.hid HL
  have hgg : g ≠ g1 := by omega
  have hgg' : g1 ≠ g := by omega
  have hcz : cR.size = 14 := rfl
  rw [hcz] at hcs
  have hci : rs.length < c1 := by omega
  unfold maxLen at hcm
  clear ht HL h1 hx hr hrw ha hcz
  obtain ⟨m, hm⟩ : ∃ m, rs.length = m := ⟨_, rfl⟩
  rw [hm] at x0 hrs hci hcs hc1 h
  have HM := Lib.hid hm
  have hmw : IntKind.i64.wrap (m : Int) = (m : Int) := IntWalk.i64_in _ (by omega)
  have hml : (m : Int) < ((m : Int) + 1) := by omega
  clear hm
  go_enter Tryz.func65, Tryz.ntmps65
  go_wp2_with fail
  (refine wp_region_quiet_lit (by kernel_rfl) (by kernel_rfl) ?_; (repeat (any_goals (first | go_big_quiet_step (fail) | quiet_step (fail) | (refine wpQuiet_step (fun K hK => ?_); go_simp; split <;> (refine hK _ ?_; clear hK K))))); all_goals (refine wpQuiet_nil ?_; intro _ hw'; obtain ⟨nq, hw''⟩ := hw'; subst hw''))
  all_goals (go_wp2_with fail)
  refine (HI.out _ (Below.drewN (Below.refl _ _) _)).mono ?_
  rintro e w2 ⟨A6, c6, l6, rfl, hr6, hq, hl6⟩
  have hq0 : Below w.heap.size w w2 := (Below.drewN (Below.refl _ _) _).trans hq
  have h2 := h.now hq0
  have hb2 := hb1.now hq0
  have hB := hq0.mono (Nat.le_of_lt hgl)
  obtain ⟨A7, c7, h7, hn7, hrd7⟩ := OwnR.into (base0 := g + 1) (T := 41) hr6 (by decide) hgl
  simp only [Value.slice.injEq] at h7
  obtain ⟨rfl, _, rfl⟩ := h7
  have hlt : m * 14 + 9 < cur.size := by omega
  have z1 := hb2.cell (m * 14 + 9)
  have f1 := hb2.free (m * 14 + 9)
  rw [Array.getElem?_eq_getElem hlt] at z1
  have HS := h2.setL HT.out (j := 9) (by omega) (u := .slice A6 l6.length c6) (fun ys hy => rou_set5 hy hn7 hrd7) rfl
  rw [HM.out] at HS
  have HS2 := Lib.hid HS
  have HB := Lib.hid (hB.setCell (p := ⟨g1, m * 14 + 9, none⟩) (show g ≤ g1 by omega) (.slice A6 l6.length c6))
  generalize cur[m * 14 + 9] = zz at z1
  clear HS h2 hrd7 hr6 hq hq0 hB hb2 hlt
  cases r with
  | none =>
    have HX := Lib.hid HLR.out
    clear hl6 HLR HI h hb1
    go_wp2_with fail
    go_ret
    exact linePost_no HX.out rfl HB.out HS2.out.boxS
  | some x =>
    obtain rfl := hl6.out x rfl
    have HX := Lib.hid HLR.out
    clear hl6 HLR HI h hb1
    go_wp2_with fail
    go_ret
    exact linePost_ok HX.out rfl HB.out ⟨_, _, _, HS2.out⟩
set_option maxRecDepth 100000 in
set_option maxHeartbeats 8000000 in
theorem list_9 (w : World) (E : EnvR w) (g : Nat) (t : Tab) (p : Int) (h : RWS w g t p) (rs : List Rou) (r0 : Rou) (ht : t.rts = rs ++ [r0]) (hrs : rs.length ≤ 40000) (a : List (List UInt8)) (ha : a ≠ []) (A : Option Addr) (cap : Nat) (hr : RdS cS w (fun k => k < g) A a) (hl : a.length ≤ 40000) (hw : ∀ x ∈ a, wordB x = true) :
    Calls Tryz.prog 65 #[.pointer (some ⟨g, 0, none⟩), .int .i64 9, .slice A a.length cap] w (LinePost g w (listT t 9 a) p) := by
  obtain ⟨v1, v2, v3, h⟩ := h
  have hgl := h.blk.lt
  have hrw : RdS cS w (Lt w) A a := hr.more fun b hb => Nat.lt_of_lt_of_le hb (Nat.le_of_lt hgl)
  obtain ⟨r, hx⟩ : ∃ r, optI a = r := ⟨_, rfl⟩
  have HI := Lib.hid fun W (hb : Below w.heap.size w W) => intsOfC hx A cap W (E.now hb) (hrw.now hb) hl hw
  have HL := listT_eq (k := 9) ht ha
  rw [show listR r0 9 a = (optI a).map fun x => { r0 with osecs := x } from rfl, hx] at HL
  have HT := Lib.hid ht
  have h1 := h.r1
  rw [ht] at h1
  obtain ⟨g1, c1, cur, rfl, hg1, hb1, hc1, hcm, hcs⟩ := h1.last
  have hal : ((a.length : Int) == 0) = false := by rw [beq_eq_false_iff_ne]; have := List.length_pos_iff.2 ha; omega
  have x0 := h.x0
  have HLR := Lib.hid HL
  have hgg : g ≠ g1 := by omega
  have hgg' : g1 ≠ g := by omega
  have hcz : cR.size = 14 := rfl
  rw [hcz] at hcs
  have hci : rs.length < c1 := by omega
  unfold maxLen at hcm
  clear ht HL h1 hx hr hrw ha hcz
  obtain ⟨m, hm⟩ : ∃ m, rs.length = m := ⟨_, rfl⟩
  rw [hm] at x0 hrs hci hcs hc1 h
  have HM := Lib.hid hm
  have hmw : IntKind.i64.wrap (m : Int) = (m : Int) := IntWalk.i64_in _ (by omega)
  have hml : (m : Int) < ((m : Int) + 1) := by omega
  clear hm
  go_enter Tryz.func65, Tryz.ntmps65
  go_wp2_with fail
  (refine wp_region_quiet_lit (by kernel_rfl) (by kernel_rfl) ?_; (repeat (any_goals (first | go_big_quiet_step (fail) | quiet_step (fail) | (refine wpQuiet_step (fun K hK => ?_); go_simp; split <;> (refine hK _ ?_; clear hK K))))); all_goals (refine wpQuiet_nil ?_; intro _ hw'; obtain ⟨nq, hw''⟩ := hw'; subst hw''))
  all_goals (go_wp2_with fail)
  refine (HI.out _ (Below.drewN (Below.refl _ _) _)).mono ?_
  rintro e w2 ⟨A6, c6, l6, rfl, hr6, hq, hl6⟩
  have hq0 : Below w.heap.size w w2 := (Below.drewN (Below.refl _ _) _).trans hq
  have h2 := h.now hq0
  have hb2 := hb1.now hq0
  have hB := hq0.mono (Nat.le_of_lt hgl)
  obtain ⟨A7, c7, h7, hn7, hrd7⟩ := OwnR.into (base0 := g + 1) (T := 41) hr6 (by decide) hgl
  simp only [Value.slice.injEq] at h7
  obtain ⟨rfl, _, rfl⟩ := h7
  have hlt : m * 14 + 10 < cur.size := by omega
  have z1 := hb2.cell (m * 14 + 10)
  have f1 := hb2.free (m * 14 + 10)
  rw [Array.getElem?_eq_getElem hlt] at z1
  have HS := h2.setL HT.out (j := 10) (by omega) (u := .slice A6 l6.length c6) (fun ys hy => rou_set6 hy hn7 hrd7) rfl
  rw [HM.out] at HS
  have HS2 := Lib.hid HS
  have HB := Lib.hid (hB.setCell (p := ⟨g1, m * 14 + 10, none⟩) (show g ≤ g1 by omega) (.slice A6 l6.length c6))
  generalize cur[m * 14 + 10] = zz at z1
  clear HS h2 hrd7 hr6 hq hq0 hB hb2 hlt
  cases r with
  | none =>
    have HX := Lib.hid HLR.out
    clear hl6 HLR HI h hb1
    go_wp2_with fail
    go_ret
    exact linePost_no HX.out rfl HB.out HS2.out.boxS
  | some x =>
    obtain rfl := hl6.out x rfl
    have HX := Lib.hid HLR.out
    clear hl6 HLR HI h hb1
    go_wp2_with fail
    go_ret
    exact linePost_ok HX.out rfl HB.out ⟨_, _, _, HS2.out⟩
set_option maxRecDepth 100000 in
set_option maxHeartbeats 8000000 in
theorem list_10 (w : World) (E : EnvR w) (g : Nat) (t : Tab) (p : Int) (h : RWS w g t p) (rs : List Rou) (r0 : Rou) (ht : t.rts = rs ++ [r0]) (hrs : rs.length ≤ 40000) (a : List (List UInt8)) (ha : a ≠ []) (A : Option Addr) (cap : Nat) (hr : RdS cS w (fun k => k < g) A a) (hl : a.length ≤ 40000) (hw : ∀ x ∈ a, wordB x = true) :
    Calls Tryz.prog 65 #[.pointer (some ⟨g, 0, none⟩), .int .i64 10, .slice A a.length cap] w (LinePost g w (listT t 10 a) p) := by
  obtain ⟨v1, v2, v3, h⟩ := h
  have hgl := h.blk.lt
  have hrw : RdS cS w (Lt w) A a := hr.more fun b hb => Nat.lt_of_lt_of_le hb (Nat.le_of_lt hgl)
  obtain ⟨r, hx⟩ : ∃ r, optG a = r := ⟨_, rfl⟩
  have HI := Lib.hid fun W (hb : Below w.heap.size w W) => settingsOfC hx A cap W (E.now hb) (hrw.now hb) hl hw
  have HL := listT_eq (k := 10) ht ha
  rw [show listR r0 10 a = (optG a).map fun x => { r0 with flk := x } from rfl, hx] at HL
  have HT := Lib.hid ht
  have h1 := h.r1
  rw [ht] at h1
  obtain ⟨g1, c1, cur, rfl, hg1, hb1, hc1, hcm, hcs⟩ := h1.last
  have hal : ((a.length : Int) == 0) = false := by rw [beq_eq_false_iff_ne]; have := List.length_pos_iff.2 ha; omega
  have x0 := h.x0
  have HLR := Lib.hid HL
  have hgg : g ≠ g1 := by omega
  have hgg' : g1 ≠ g := by omega
  have hcz : cR.size = 14 := rfl
  rw [hcz] at hcs
  have hci : rs.length < c1 := by omega
  unfold maxLen at hcm
  clear ht HL h1 hx hr hrw ha hcz
  obtain ⟨m, hm⟩ : ∃ m, rs.length = m := ⟨_, rfl⟩
  rw [hm] at x0 hrs hci hcs hc1 h
  have HM := Lib.hid hm
  have hmw : IntKind.i64.wrap (m : Int) = (m : Int) := IntWalk.i64_in _ (by omega)
  have hml : (m : Int) < ((m : Int) + 1) := by omega
  clear hm
  go_enter Tryz.func65, Tryz.ntmps65
  go_wp2_with fail
  (refine wp_region_quiet_lit (by kernel_rfl) (by kernel_rfl) ?_; (repeat (any_goals (first | go_big_quiet_step (fail) | quiet_step (fail) | (refine wpQuiet_step (fun K hK => ?_); go_simp; split <;> (refine hK _ ?_; clear hK K))))); all_goals (refine wpQuiet_nil ?_; intro _ hw'; obtain ⟨nq, hw''⟩ := hw'; subst hw''))
  all_goals (go_wp2_with fail)
  refine (HI.out _ (Below.drewN (Below.refl _ _) _)).mono ?_
  rintro e w2 ⟨A6, c6, l6, rfl, hr6, hq, hl6⟩
  have hq0 : Below w.heap.size w w2 := (Below.drewN (Below.refl _ _) _).trans hq
  have h2 := h.now hq0
  have hb2 := hb1.now hq0
  have hB := hq0.mono (Nat.le_of_lt hgl)
  obtain ⟨A7, c7, h7, hn7, hrd7⟩ := OwnR.into (base0 := g + 1) (T := 41) hr6 (by decide) hgl
  simp only [Value.slice.injEq] at h7
  obtain ⟨rfl, _, rfl⟩ := h7
  have hlt : m * 14 + 11 < cur.size := by omega
  have z1 := hb2.cell (m * 14 + 11)
  have f1 := hb2.free (m * 14 + 11)
  rw [Array.getElem?_eq_getElem hlt] at z1
  have HS := h2.setL HT.out (j := 11) (by omega) (u := .slice A6 l6.length c6) (fun ys hy => rou_set7 hy hn7 hrd7) rfl
  rw [HM.out] at HS
  have HS2 := Lib.hid HS
  have HB := Lib.hid (hB.setCell (p := ⟨g1, m * 14 + 11, none⟩) (show g ≤ g1 by omega) (.slice A6 l6.length c6))
  generalize cur[m * 14 + 11] = zz at z1
  clear HS h2 hrd7 hr6 hq hq0 hB hb2 hlt
  cases r with
  | none =>
    have HX := Lib.hid HLR.out
    clear hl6 HLR HI h hb1
    go_wp2_with fail
    go_ret
    exact linePost_no HX.out rfl HB.out HS2.out.boxS
  | some x =>
    obtain rfl := hl6.out x rfl
    have HX := Lib.hid HLR.out
    clear hl6 HLR HI h hb1
    go_wp2_with fail
    go_ret
    exact linePost_ok HX.out rfl HB.out ⟨_, _, _, HS2.out⟩
set_option maxRecDepth 100000 in
set_option maxHeartbeats 8000000 in
theorem list_11 (w : World) (E : EnvR w) (g : Nat) (t : Tab) (p : Int) (h : RWS w g t p) (rs : List Rou) (r0 : Rou) (ht : t.rts = rs ++ [r0]) (hrs : rs.length ≤ 40000) (a : List (List UInt8)) (ha : a ≠ []) (A : Option Addr) (cap : Nat) (hr : RdS cS w (fun k => k < g) A a) (hl : a.length ≤ 40000) (hw : ∀ x ∈ a, wordB x = true) :
    Calls Tryz.prog 65 #[.pointer (some ⟨g, 0, none⟩), .int .i64 11, .slice A a.length cap] w (LinePost g w (listT t 11 a) p) := by
  obtain ⟨v1, v2, v3, h⟩ := h
  have hgl := h.blk.lt
  have hrw : RdS cS w (Lt w) A a := hr.more fun b hb => Nat.lt_of_lt_of_le hb (Nat.le_of_lt hgl)
  obtain ⟨r, hx⟩ : ∃ r, optI a = r := ⟨_, rfl⟩
  have HI := Lib.hid fun W (hb : Below w.heap.size w W) => intsOfC hx A cap W (E.now hb) (hrw.now hb) hl hw
  have HL := listT_eq (k := 11) ht ha
  rw [show listR r0 11 a = (optI a).map fun x => { r0 with grd := x } from rfl, hx] at HL
  have HT := Lib.hid ht
  have h1 := h.r1
  rw [ht] at h1
  obtain ⟨g1, c1, cur, rfl, hg1, hb1, hc1, hcm, hcs⟩ := h1.last
  have hal : ((a.length : Int) == 0) = false := by rw [beq_eq_false_iff_ne]; have := List.length_pos_iff.2 ha; omega
  have x0 := h.x0
  have HLR := Lib.hid HL
  have hgg : g ≠ g1 := by omega
  have hgg' : g1 ≠ g := by omega
  have hcz : cR.size = 14 := rfl
  rw [hcz] at hcs
  have hci : rs.length < c1 := by omega
  unfold maxLen at hcm
  clear ht HL h1 hx hr hrw ha hcz
  obtain ⟨m, hm⟩ : ∃ m, rs.length = m := ⟨_, rfl⟩
  rw [hm] at x0 hrs hci hcs hc1 h
  have HM := Lib.hid hm
  have hmw : IntKind.i64.wrap (m : Int) = (m : Int) := IntWalk.i64_in _ (by omega)
  have hml : (m : Int) < ((m : Int) + 1) := by omega
  clear hm
  go_enter Tryz.func65, Tryz.ntmps65
  go_wp2_with fail
  (refine wp_region_quiet_lit (by kernel_rfl) (by kernel_rfl) ?_; (repeat (any_goals (first | go_big_quiet_step (fail) | quiet_step (fail) | (refine wpQuiet_step (fun K hK => ?_); go_simp; split <;> (refine hK _ ?_; clear hK K))))); all_goals (refine wpQuiet_nil ?_; intro _ hw'; obtain ⟨nq, hw''⟩ := hw'; subst hw''))
  all_goals (go_wp2_with fail)
  refine (HI.out _ (Below.drewN (Below.refl _ _) _)).mono ?_
  rintro e w2 ⟨A6, c6, l6, rfl, hr6, hq, hl6⟩
  have hq0 : Below w.heap.size w w2 := (Below.drewN (Below.refl _ _) _).trans hq
  have h2 := h.now hq0
  have hb2 := hb1.now hq0
  have hB := hq0.mono (Nat.le_of_lt hgl)
  obtain ⟨A7, c7, h7, hn7, hrd7⟩ := OwnR.into (base0 := g + 1) (T := 41) hr6 (by decide) hgl
  simp only [Value.slice.injEq] at h7
  obtain ⟨rfl, _, rfl⟩ := h7
  have hlt : m * 14 + 12 < cur.size := by omega
  have z1 := hb2.cell (m * 14 + 12)
  have f1 := hb2.free (m * 14 + 12)
  rw [Array.getElem?_eq_getElem hlt] at z1
  have HS := h2.setL HT.out (j := 12) (by omega) (u := .slice A6 l6.length c6) (fun ys hy => rou_set8 hy hn7 hrd7) rfl
  rw [HM.out] at HS
  have HS2 := Lib.hid HS
  have HB := Lib.hid (hB.setCell (p := ⟨g1, m * 14 + 12, none⟩) (show g ≤ g1 by omega) (.slice A6 l6.length c6))
  generalize cur[m * 14 + 12] = zz at z1
  clear HS h2 hrd7 hr6 hq hq0 hB hb2 hlt
  cases r with
  | none =>
    have HX := Lib.hid HLR.out
    clear hl6 HLR HI h hb1
    go_wp2_with fail
    go_ret
    exact linePost_no HX.out rfl HB.out HS2.out.boxS
  | some x =>
    obtain rfl := hl6.out x rfl
    have HX := Lib.hid HLR.out
    clear hl6 HLR HI h hb1
    go_wp2_with fail
    go_ret
    exact linePost_ok HX.out rfl HB.out ⟨_, _, _, HS2.out⟩
set_option maxRecDepth 100000 in
set_option maxHeartbeats 8000000 in
theorem list_12 (w : World) (E : EnvR w) (g : Nat) (t : Tab) (p : Int) (h : RWS w g t p) (rs : List Rou) (r0 : Rou) (ht : t.rts = rs ++ [r0]) (hrs : rs.length ≤ 40000) (a : List (List UInt8)) (ha : a ≠ []) (A : Option Addr) (cap : Nat) (hr : RdS cS w (fun k => k < g) A a) (hl : a.length ≤ 40000) (hw : ∀ x ∈ a, wordB x = true) :
    Calls Tryz.prog 65 #[.pointer (some ⟨g, 0, none⟩), .int .i64 12, .slice A a.length cap] w (LinePost g w (listT t 12 a) p) := by
  obtain ⟨v1, v2, v3, h⟩ := h
  have hgl := h.blk.lt
  have hrw : RdS cS w (Lt w) A a := hr.more fun b hb => Nat.lt_of_lt_of_le hb (Nat.le_of_lt hgl)
  obtain ⟨r, hx⟩ : ∃ r, optE a = r := ⟨_, rfl⟩
  have HI := Lib.hid fun W (hb : Below w.heap.size w W) => endsOfC hx A cap W (E.now hb) (hrw.now hb) hl hw
  have HL := listT_eq (k := 12) ht ha
  rw [show listR r0 12 a = (optE a).map fun x => { r0 with gap := x } from rfl, hx] at HL
  have HT := Lib.hid ht
  have h1 := h.r1
  rw [ht] at h1
  obtain ⟨g1, c1, cur, rfl, hg1, hb1, hc1, hcm, hcs⟩ := h1.last
  have hal : ((a.length : Int) == 0) = false := by rw [beq_eq_false_iff_ne]; have := List.length_pos_iff.2 ha; omega
  have x0 := h.x0
  have HLR := Lib.hid HL
  have hgg : g ≠ g1 := by omega
  have hgg' : g1 ≠ g := by omega
  have hcz : cR.size = 14 := rfl
  rw [hcz] at hcs
  have hci : rs.length < c1 := by omega
  unfold maxLen at hcm
  clear ht HL h1 hx hr hrw ha hcz
  obtain ⟨m, hm⟩ : ∃ m, rs.length = m := ⟨_, rfl⟩
  rw [hm] at x0 hrs hci hcs hc1 h
  have HM := Lib.hid hm
  have hmw : IntKind.i64.wrap (m : Int) = (m : Int) := IntWalk.i64_in _ (by omega)
  have hml : (m : Int) < ((m : Int) + 1) := by omega
  clear hm
  go_enter Tryz.func65, Tryz.ntmps65
  go_wp2_with fail
  (refine wp_region_quiet_lit (by kernel_rfl) (by kernel_rfl) ?_; (repeat (any_goals (first | go_big_quiet_step (fail) | quiet_step (fail) | (refine wpQuiet_step (fun K hK => ?_); go_simp; split <;> (refine hK _ ?_; clear hK K))))); all_goals (refine wpQuiet_nil ?_; intro _ hw'; obtain ⟨nq, hw''⟩ := hw'; subst hw''))
  all_goals (go_wp2_with fail)
  refine (HI.out _ (Below.drewN (Below.refl _ _) _)).mono ?_
  rintro e w2 ⟨A6, c6, l6, rfl, hr6, hq, hl6⟩
  have hq0 : Below w.heap.size w w2 := (Below.drewN (Below.refl _ _) _).trans hq
  have h2 := h.now hq0
  have hb2 := hb1.now hq0
  have hB := hq0.mono (Nat.le_of_lt hgl)
  obtain ⟨A7, c7, h7, hn7, hrd7⟩ := OwnR.into (base0 := g + 1) (T := 41) hr6 (by decide) hgl
  simp only [Value.slice.injEq] at h7
  obtain ⟨rfl, _, rfl⟩ := h7
  have hlt : m * 14 + 13 < cur.size := by omega
  have z1 := hb2.cell (m * 14 + 13)
  have f1 := hb2.free (m * 14 + 13)
  rw [Array.getElem?_eq_getElem hlt] at z1
  have HS := h2.setL HT.out (j := 13) (by omega) (u := .slice A6 l6.length c6) (fun ys hy => rou_set9 hy hn7 hrd7) rfl
  rw [HM.out] at HS
  have HS2 := Lib.hid HS
  have HB := Lib.hid (hB.setCell (p := ⟨g1, m * 14 + 13, none⟩) (show g ≤ g1 by omega) (.slice A6 l6.length c6))
  generalize cur[m * 14 + 13] = zz at z1
  clear HS h2 hrd7 hr6 hq hq0 hB hb2 hlt
  cases r with
  | none =>
    have HX := Lib.hid HLR.out
    clear hl6 HLR HI h hb1
    go_wp2_with fail
    go_ret
    exact linePost_no HX.out rfl HB.out HS2.out.boxS
  | some x =>
    obtain rfl := hl6.out x rfl
    have HX := Lib.hid HLR.out
    clear hl6 HLR HI h hb1
    go_wp2_with fail
    go_ret
    exact linePost_ok HX.out rfl HB.out ⟨_, _, _, HS2.out⟩
end Go.Proofs.YtlblfblkallnhaaGreatDoor
