/- The walk of routeRight. -/
import Derived.Test.YtlblfblkallnhaaGreatDoorTbChkB
import Derived.Test.YtlblfblkallnhaaGreatDoorTbChkD
import Derived.Test.YtlblfblkallnhaaGreatDoorTbParA
namespace Go.Proofs.YtlblfblkallnhaaGreatDoor
set_option linter.unusedVariables false
set_option linter.unusedSimpArgs false
open Go.RowKit
attribute [local go_sem] bs_size bs_get bs_append bs_extract bs_toList
attribute [-go_sem] run_equalIn_agg
/-- A table and a route boxed at the beginning of a call. -/
structure RS (w0 : World) (v : TabV) (r : RouV) (w : World) : Prop where
  bel : Below w0.heap.size w0 w
  b0 : Blk w w0.heap.size 25 #[.slice v.A1 v.t.rts.length v.c1, .slice v.A2 v.t.pts.length v.c2, .slice v.A3 v.t.homes.length v.c3, .int .i64 v.t.nsec, .int .i64 v.t.nsig]
  b1 : Blk w (w0.heap.size + 1) 41 #[.string (bs r.r.name), .int .i64 r.r.ent, .int .i64 r.r.ext, .slice r.A1 r.r.path.length r.c1, .slice r.A2 r.r.pts.length r.c2, .slice r.A3 r.r.secs.length r.c3, .int .i64 r.r.app, .int .i64 r.r.len, .slice r.A4 r.r.over.length r.c4, .slice r.A5 r.r.opts.length r.c5, .slice r.A6 r.r.osecs.length r.c6, .slice r.A7 r.r.flk.length r.c7, .slice r.A8 r.r.grd.length r.c8, .slice r.A9 r.r.gap.length r.c9]
section
variable {w0 w w' : World} {v : TabV} {r : RouV}
theorem RS.new (w0 : World) (v : TabV) (r : RouV) : RS w0 v r ((w0.alloc (.cells #[.slice v.A1 v.t.rts.length v.c1, .slice v.A2 v.t.pts.length v.c2, .slice v.A3 v.t.homes.length v.c3, .int .i64 v.t.nsec, .int .i64 v.t.nsig] 25)).alloc (.cells #[.string (bs r.r.name), .int .i64 r.r.ent, .int .i64 r.r.ext, .slice r.A1 r.r.path.length r.c1, .slice r.A2 r.r.pts.length r.c2, .slice r.A3 r.r.secs.length r.c3, .int .i64 r.r.app, .int .i64 r.r.len, .slice r.A4 r.r.over.length r.c4, .slice r.A5 r.r.opts.length r.c5, .slice r.A6 r.r.osecs.length r.c6, .slice r.A7 r.r.flk.length r.c7, .slice r.A8 r.r.grd.length r.c8, .slice r.A9 r.r.gap.length r.c9] 41)) :=
  ⟨((Below.refl _ _).alloc (Nat.le_refl _) _).alloc (by simp) _, (Blk.new _ _ _ _ rfl).alloc _, Blk.new _ _ _ _ (by simp)⟩
theorem RS.now (h : RS w0 v r w) (hb : Below w.heap.size w w') : RS w0 v r w' := ⟨bel_then h.bel h.bel.size hb, h.b0.now hb, h.b1.now hb⟩
theorem RS.alloc (h : RS w0 v r w) (o : Obj) : RS w0 v r (w.alloc o) := h.now ((Below.refl _ _).alloc (Nat.le_refl _) o)
theorem RS.drew (h : RS w0 v r w) : RS w0 v r w.drew := h.now (Below.refl _ _).drew
theorem RS.put (h : RS w0 v r w) {g : Nat} (hg : w0.heap.size + 2 ≤ g) (j : Nat) (u : Value) : RS w0 v r (w.setCell ⟨g, j, none⟩ u) := ⟨h.bel.setCell (p := ⟨g, j, none⟩) (show w0.heap.size ≤ g by omega) u, h.b0.far (p := ⟨g, j, none⟩) (show w0.heap.size ≠ g by omega) u, h.b1.far (p := ⟨g, j, none⟩) (show w0.heap.size + 1 ≠ g by omega) u⟩
end
def usedC (l : List Int) : Array Value := ((List.range 24).map fun j : Nat => Value.bool (decide ((j : Int) ∈ l))).toArray
theorem usedC_get (l : List Int) {n : Nat} (h : n < 24) : (usedC l)[n]? = some (.bool (decide ((n : Int) ∈ l))) := by
  unfold usedC
  simp [h]
theorem usedC_set (l : List Int) {n : Nat} (h : n < 24) : (usedC l).setIfInBounds n (.bool true) = usedC (l ++ [(n : Int)]) := by
  apply Array.ext
  · simp [usedC]
  · intro i h1 h2
    simp only [usedC, Array.size_setIfInBounds] at h1 ⊢
    simp at h1
    by_cases e : i = n
    · subst e; simp [usedC]
    · have e2 : ¬ ((i : Int) = (n : Int)) := by omega
      simp [usedC, Array.getElem_setIfInBounds, e2, show ¬ n = i by omega]
theorem rds_two {w : World} {g : Nat} {T : TypeId} {A B : Option Addr} {a b : List Int} {ca cb : Nat} (h : Blk w g T #[.slice A a.length ca, .slice B b.length cb]) (ha : RdS cI w (Lt w) A a) (hb : RdS cI w (Lt w) B b) (na : a.length ≤ maxLen ∧ a.length ≤ ca) (nb : b.length ≤ maxLen ∧ b.length ≤ cb) : RdS (cL cI) w (Lt w) (some ⟨g, 0, none⟩) [a, b] := by
  refine fun _ => ⟨g, 0, rfl, h.lt, fun i x hi => ?_⟩
  match i, hi with
  | 0, hi =>
    simp at hi; subst hi
    exact ⟨[.slice A a.length ca], ⟨A, ca, rfl, na, ha⟩, fun j u hu => by
      match j, hu with
      | 0, hu => simp at hu; subst hu; exact h.cell 0
      | j + 1, hu => simp at hu⟩
  | 1, hi =>
    simp at hi; subst hi
    exact ⟨[.slice B b.length cb], ⟨B, cb, rfl, nb, hb⟩, fun j u hu => by
      match j, hu with
      | 0, hu => simp at hu; subst hu; exact h.cell 1
      | j + 1, hu => simp at hu⟩
  | i + 2, hi => simp at hi
theorem rou_no1 {t : Tab} {r : Rou} (h : inB r.ent 0 (t.nsig - 1) = false) : rouB t r = false := by unfold rouB; rw [h]; rfl
theorem rou_no2 {t : Tab} {r : Rou} (h : r.ext ≠ -1) (h2 : inB r.ext 0 (t.nsig - 1) = false) : rouB t r = false := by
  have : inB r.ext (-1) (t.nsig - 1) = false := by
    rw [← Bool.not_eq_true, inB_iff] at h2 ⊢
    omega
  unfold rouB; rw [this]; simp
theorem ext_yes {t : Tab} {r : Rou} (hs : 0 ≤ t.nsig) (h : r.ext = -1 ∨ inB r.ext 0 (t.nsig - 1) = true) : inB r.ext (-1) (t.nsig - 1) = true := by
  rw [inB_iff] at *
  omega
theorem rou_no3 {t : Tab} {r : Rou} (h : r.path.length < 1 ∨ 12 < r.path.length) : rouB t r = false := by
  have : (decide (1 ≤ r.path.length) && decide (r.path.length ≤ 12)) = false := by
    rcases h with h | h
    · rw [decide_eq_false (by omega)]; rfl
    · rw [decide_eq_false (show ¬ r.path.length ≤ 12 by omega), Bool.and_false]
  unfold rouB; rw [this]; simp
theorem rou_no4 {t : Tab} {r : Rou} (h : r.secs.length = 0) : rouB t r = false := by
  unfold rouB; rw [List.length_eq_zero_iff.1 h]; simp
theorem rou_no5 {t : Tab} {r : Rou} (h : sscB t (r.secs ++ r.osecs) = false) : rouB t r = false := by unfold rouB; rw [h]; simp
theorem rou_fin {t : Tab} {r : Rou} (h1 : inB r.ent 0 (t.nsig - 1) = true) (h2 : inB r.ext (-1) (t.nsig - 1) = true) (h3 : ¬ r.path.length < 1) (h4 : ¬ 12 < r.path.length) (h5 : r.secs.length ≠ 0) (h6 : sscB t (r.secs ++ r.osecs) = true) : rouB t r = (inB r.app 0 (t.nsec - 1) && decide (1 ≤ r.len)) := by
  unfold rouB
  rw [h1, h2, h6, decide_eq_true (show 1 ≤ r.path.length by omega), decide_eq_true (show r.path.length ≤ 12 by omega), decide_eq_true (show r.secs ≠ [] from fun e => h5 (by rw [e]; rfl))]
  rfl
theorem ssc_no1 {t : Tab} {l : List Int} {k : Nat} (hk : k < l.length) (h : inB l[k] 0 (t.nsec - 1) = false) : sscB t l = false := by unfold sscB; rw [all_no2 hk h]; rfl
theorem ssc_no2 {t : Tab} {l : List Int} {k : Nat} (hk : k < l.length) (h : l[k] ∈ l.take k) : sscB t l = false := by unfold sscB; rw [decide_eq_false (not_nodup hk h), Bool.and_false]
theorem ssc_end {t : Tab} {l : List Int} {k : Nat} (hk : ¬ k < l.length) (h : (l.take k).all (fun s => inB s 0 (t.nsec - 1)) = true) (h2 : (l.take k).Nodup) : sscB t l = true := by
  rw [List.take_of_length_le (by omega)] at h h2
  unfold sscB; rw [h, decide_eq_true h2]; rfl
def SscI (t : Tab) (l : List Int) (k : Nat) : Prop := (l.take k).all (fun s => inB s 0 (t.nsec - 1)) = true ∧ (l.take k).Nodup
theorem LowR.ownI {w : World} {base : Nat} {e : TypeId} {v : Value} {l : List Int} (h : LowR cI w base e v l) : OwnR cI w base e v l 0 := by
  obtain ⟨xs, h1, h2, _⟩ := h
  have key : ∀ {l : List Int} {xs : List Value} {S S' : Nat → Prop}, RdC cI w S xs l → RdC cI w S' xs l := by
    intro l
    induction l with
    | nil => exact fun h => h
    | cons a l ih => exact fun ⟨y, z, h1, h2, h3⟩ => ⟨y, z, h1, h2, ih h3⟩
  exact ⟨xs, h1, key h2, Nat.zero_le _⟩
set_option maxRecDepth 100000 in
set_option maxHeartbeats 16000000 in
theorem routeRight_any (v : TabV) (r : RouV) (w : World) (hr : TvR w v) (hrr : RvR w (Lt w) r) (hs1 : 0 ≤ v.t.nsec) (hs2 : v.t.nsec ≤ 24) (hg1 : 0 ≤ v.t.nsig) (hg2 : v.t.nsig ≤ 20) (hl3 : r.r.secs.length ≤ 40000) (hl6 : r.r.osecs.length ≤ 40000) :
    Calls Tryz.prog 35 #[tvA v, .agg #[.string (bs r.r.name), .int .i64 r.r.ent, .int .i64 r.r.ext, .slice r.A1 r.r.path.length r.c1, .slice r.A2 r.r.pts.length r.c2, .slice r.A3 r.r.secs.length r.c3, .int .i64 r.r.app, .int .i64 r.r.len, .slice r.A4 r.r.over.length r.c4, .slice r.A5 r.r.opts.length r.c5, .slice r.A6 r.r.osecs.length r.c6, .slice r.A7 r.r.flk.length r.c7, .slice r.A8 r.r.grd.length r.c8, .slice r.A9 r.r.gap.length r.c9]] w fun e w' => e = .returned (.bool (rouB v.t r.r)) ∧ Below w.heap.size w w' := by
  have hS := RS.new w v r
  have x3 := hS.b0.cell 3
  have x4 := hS.b0.cell 4
  have y1 := hS.b1.cell 1
  have y2 := hS.b1.cell 2
  have y3 := hS.b1.cell 3
  have y5 := hS.b1.cell 5
  have y10 := hS.b1.cell 10
  simp only [List.getElem?_toArray, List.getElem?_cons_zero, List.getElem?_cons_succ] at x3 x4 y1 y2 y3 y5 y10
  have hB := hS.bel
  unfold tvA
  cases c1 : inB r.r.ent 0 (v.t.nsig - 1) with
  | false =>
    have HX := Lib.hid (rou_no1 c1)
    have HC1 := Lib.hid fun W => twithinC c1 W (by omega)
    clear c1
    go_enter Tryz.func35, Tryz.ntmps35
    go_wp2_with (go_at_call 33; refine (HC1.out _).mono ?_; rintro e wq ⟨rfl, rfl⟩)
    go_ret
    exact ⟨ret_b HX.out.symm, hB⟩
  | true =>
    have HC1 := Lib.hid fun W => twithinC c1 W (by omega)
    by_cases hx : r.r.ext = -1
    · have HE := Lib.hid (ext_yes (t := v.t) (r := r.r) hg1 (Or.inl hx))
      have hxb : (r.r.ext != -1) = false := by simp [hx]
      clear hx
      by_cases p1 : r.r.path.length < 1
      · have HX := Lib.hid (rou_no3 (t := v.t) (Or.inl p1))
        have p1i : ((r.r.path.length : Int) < 1) := by omega
        clear p1
        go_enter Tryz.func35, Tryz.ntmps35
        go_wp2_with fail
        refine (HC1.out _).mono ?_
        rintro e wq ⟨rfl, rfl⟩
        go_wp2_with fail
        go_ret
        exact ⟨ret_b HX.out.symm, hB⟩
      by_cases p2 : 12 < r.r.path.length
      · have HX := Lib.hid (rou_no3 (t := v.t) (Or.inr p2))
        have p1i : ¬ ((r.r.path.length : Int) < 1) := by omega
        have p2i : ((12 : Int) < r.r.path.length) := by omega
        clear p1 p2
        go_enter Tryz.func35, Tryz.ntmps35
        go_wp2_with fail
        refine (HC1.out _).mono ?_
        rintro e wq ⟨rfl, rfl⟩
        go_wp2_with fail
        go_ret
        exact ⟨ret_b HX.out.symm, hB⟩
      by_cases p3 : r.r.secs.length = 0
      · have HX := Lib.hid (rou_no4 (t := v.t) p3)
        have p1i : ¬ ((r.r.path.length : Int) < 1) := by omega
        have p2i : ¬ ((12 : Int) < r.r.path.length) := by omega
        have p3i : ((r.r.secs.length : Int) == 0) = true := by rw [beq_iff_eq]; omega
        clear p1 p2 p3
        go_enter Tryz.func35, Tryz.ntmps35
        go_wp2_with fail
        refine (HC1.out _).mono ?_
        rintro e wq ⟨rfl, rfl⟩
        go_wp2_with fail
        go_ret
        exact ⟨ret_b HX.out.symm, hB⟩
      have HF := Lib.hid (rou_fin (t := v.t) (r := r.r) c1 HE.out p1 p2 p3)
      have HP3 := Lib.hid p3
      have p1i : ¬ ((r.r.path.length : Int) < 1) := by omega
      have p2i : ¬ ((12 : Int) < r.r.path.length) := by omega
      have p3i : ((r.r.secs.length : Int) == 0) = false := by rw [beq_eq_false_iff_ne]; omega
      clear p1 p2 p3 c1
      go_enter Tryz.func35, Tryz.ntmps35
      go_wp2_with fail
      refine (HC1.out _).mono ?_
      rintro e wq ⟨rfl, rfl⟩
      go_wp2_with fail
      have hU : Blk ((((w.alloc (.cells #[.slice v.A1 v.t.rts.length v.c1, .slice v.A2 v.t.pts.length v.c2, .slice v.A3 v.t.homes.length v.c3, .int .i64 v.t.nsec, .int .i64 v.t.nsig] 25)).alloc (.cells #[.string (bs r.r.name), .int .i64 r.r.ent, .int .i64 r.r.ext, .slice r.A1 r.r.path.length r.c1, .slice r.A2 r.r.pts.length r.c2, .slice r.A3 r.r.secs.length r.c3, .int .i64 r.r.app, .int .i64 r.r.len, .slice r.A4 r.r.over.length r.c4, .slice r.A5 r.r.opts.length r.c5, .slice r.A6 r.r.osecs.length r.c6, .slice r.A7 r.r.flk.length r.c7, .slice r.A8 r.r.grd.length r.c8, .slice r.A9 r.r.gap.length r.c9] 41)).alloc (.cells #[.bool false, .bool false, .bool false, .bool false, .bool false, .bool false, .bool false, .bool false, .bool false, .bool false, .bool false, .bool false, .bool false, .bool false, .bool false, .bool false, .bool false, .bool false, .bool false, .bool false, .bool false, .bool false, .bool false, .bool false] 96)).alloc (.cells #[.slice r.A3 r.r.secs.length r.c3, .slice r.A6 r.r.osecs.length r.c6] 23)) (w.heap.size + 1 + 1) 96 (usedC []) := (Blk.new _ _ _ _ (by simp)).alloc _
      have hA : Blk ((((w.alloc (.cells #[.slice v.A1 v.t.rts.length v.c1, .slice v.A2 v.t.pts.length v.c2, .slice v.A3 v.t.homes.length v.c3, .int .i64 v.t.nsec, .int .i64 v.t.nsig] 25)).alloc (.cells #[.string (bs r.r.name), .int .i64 r.r.ent, .int .i64 r.r.ext, .slice r.A1 r.r.path.length r.c1, .slice r.A2 r.r.pts.length r.c2, .slice r.A3 r.r.secs.length r.c3, .int .i64 r.r.app, .int .i64 r.r.len, .slice r.A4 r.r.over.length r.c4, .slice r.A5 r.r.opts.length r.c5, .slice r.A6 r.r.osecs.length r.c6, .slice r.A7 r.r.flk.length r.c7, .slice r.A8 r.r.grd.length r.c8, .slice r.A9 r.r.gap.length r.c9] 41)).alloc (.cells #[.bool false, .bool false, .bool false, .bool false, .bool false, .bool false, .bool false, .bool false, .bool false, .bool false, .bool false, .bool false, .bool false, .bool false, .bool false, .bool false, .bool false, .bool false, .bool false, .bool false, .bool false, .bool false, .bool false, .bool false] 96)).alloc (.cells #[.slice r.A3 r.r.secs.length r.c3, .slice r.A6 r.r.osecs.length r.c6] 23)) (w.heap.size + 1 + 1 + 1) 23 #[.slice r.A3 r.r.secs.length r.c3, .slice r.A6 r.r.osecs.length r.c6] := Blk.new _ _ _ _ (by simp)
      have hS2 := (hS.alloc (.cells #[.bool false, .bool false, .bool false, .bool false, .bool false, .bool false, .bool false, .bool false, .bool false, .bool false, .bool false, .bool false, .bool false, .bool false, .bool false, .bool false, .bool false, .bool false, .bool false, .bool false, .bool false, .bool false, .bool false, .bool false] 96)).alloc (.cells #[.slice r.A3 r.r.secs.length r.c3, .slice r.A6 r.r.osecs.length r.c6] 23)
      have hz2 := hA.lt
      generalize (((w.alloc (.cells #[.slice v.A1 v.t.rts.length v.c1, .slice v.A2 v.t.pts.length v.c2, .slice v.A3 v.t.homes.length v.c3, .int .i64 v.t.nsec, .int .i64 v.t.nsig] 25)).alloc (.cells #[.string (bs r.r.name), .int .i64 r.r.ent, .int .i64 r.r.ext, .slice r.A1 r.r.path.length r.c1, .slice r.A2 r.r.pts.length r.c2, .slice r.A3 r.r.secs.length r.c3, .int .i64 r.r.app, .int .i64 r.r.len, .slice r.A4 r.r.over.length r.c4, .slice r.A5 r.r.opts.length r.c5, .slice r.A6 r.r.osecs.length r.c6, .slice r.A7 r.r.flk.length r.c7, .slice r.A8 r.r.grd.length r.c8, .slice r.A9 r.r.gap.length r.c9] 41)).alloc (.cells #[.bool false, .bool false, .bool false, .bool false, .bool false, .bool false, .bool false, .bool false, .bool false, .bool false, .bool false, .bool false, .bool false, .bool false, .bool false, .bool false, .bool false, .bool false, .bool false, .bool false, .bool false, .bool false, .bool false, .bool false] 96)).alloc (.cells #[.slice r.A3 r.r.secs.length r.c3, .slice r.A6 r.r.osecs.length r.c6] 23) = W4 at *
      have HCC := Lib.hid (concat_any [r.r.secs, r.r.osecs] (some ⟨w.heap.size + 1 + 1 + 1, 0, none⟩) 2 W4 (rds_two hA (hrr.r3.now hS2.bel) (hrr.r6.now hS2.bel) hrr.o.n3 hrr.o.n6) (by simp) (by intro l hl; simp only [List.mem_cons, List.not_mem_nil, or_false] at hl; rcases hl with rfl | rfl <;> assumption))
      refine HCC.out.mono ?_
      rintro e w5 ⟨v5, rfl, hlow, hq⟩
      have hown := hlow.ownI
      rw [show [r.r.secs, r.r.osecs].flatten = r.r.secs ++ r.r.osecs by simp] at hown
      have hS5 := hS2.now hq
      have hU5 := hU.now hq
      have HNO := Lib.hid (rou_no5 (t := v.t) (r := r.r))
      have HL0 : 0 < (r.r.secs ++ r.r.osecs).length := by have := HP3.out; rw [List.length_append]; omega
      have hLm : (r.r.secs ++ r.r.osecs).length ≤ 90000 := by rw [List.length_append]; omega
      clear hlow hq hS2 hU hA HCC hS x3 x4 y1 y2 y3 y5 y10 hB p1i p2i p3i HP3 hrr
      generalize r.r.secs ++ r.r.osecs = L at *
      obtain ⟨g6, c6, rfl, hc6⟩ := own_ints hown HL0
      go_wp2_with fail
      go_loopw [50] (fun n wr => ∃ k : Nat, k ≤ L.length ∧ n = .int .i64 k ∧ RS w v r wr ∧ Blk wr (w.heap.size + 1 + 1) 96 (usedC (L.take k)) ∧ OwnR cI wr W4.heap.size 3 (.slice (some ⟨g6, 0, none⟩) L.length c6) L 0 ∧ Hid (SscI v.t L k)) (fun n _ => L.length - (intOf n).toNat)
      case atStart => exact ⟨0, Nat.zero_le _, rfl, hS5, hU5, hown, Lib.hid ⟨by simp, by simp⟩⟩
      case round =>
        clear hS5 hU5 hown
        obtain ⟨k, hk, rfl, hS, hU, hown, HK⟩ := hrel
        have x3 := hS.b0.cell 3
        simp only [List.getElem?_toArray, List.getElem?_cons_zero, List.getElem?_cons_succ] at x3
        by_cases hlt : k < L.length
        · have hki : (k : Int) < (L.length : Int) := by omega
          have y0 := (own_cellI hown hlt).1
          rw [Nat.zero_add] at y0
          cases c3 : inB L[k] 0 (v.t.nsec - 1) with
          | false =>
            have HX := Lib.hid (HNO.out (ssc_no1 hlt c3))
            have HC3 := Lib.hid fun W => twithinC c3 W (by omega)
            clear c3 HK
            generalize L[k] = q at *
            go_wp2_with fail
            refine (HC3.out _).mono ?_
            rintro e wq ⟨rfl, rfl⟩
            go_wp2_with fail
            go_ret
            exact ⟨ret_b HX.out.symm, hS.bel⟩
          | true =>
            have HC3 := Lib.hid fun W => twithinC c3 W (by omega)
            obtain ⟨n, hn⟩ := Int.eq_ofNat_of_zero_le (inB_iff.1 c3).1
            have hn24 : n < 24 := by have := (inB_iff.1 c3).2; omega
            have hni : (n : Int) < 24 := by omega
            have u0 := (hU.cell n).trans (usedC_get _ hn24)
            have hf := hU.free n
            by_cases hm : L[k] ∈ L.take k
            · have HX := Lib.hid (HNO.out (ssc_no2 hlt hm))
              rw [hn] at hm
              rw [decide_eq_true hm] at u0
              clear c3 HK hm
              rw [hn] at y0 HC3
              clear hn
              go_wp2_with fail
              refine (HC3.out _).mono ?_
              rintro e wq ⟨rfl, rfl⟩
              go_wp2_with fail
              go_ret
              exact ⟨ret_b HX.out.symm, hS.bel⟩
            · have HK2 : Hid (SscI v.t L (k + 1)) := Lib.hid ⟨all_take2 hlt HK.out.1 c3, nodup_take hlt HK.out.2 hm⟩
              have HT : Hid (L.take (k + 1) = L.take k ++ [(n : Int)]) := Lib.hid (by rw [List.take_succ_eq_append_getElem hlt, hn])
              rw [hn] at hm
              rw [decide_eq_false hm] at u0
              rw [hn] at y0 HC3
              have HS2 := Lib.hid (hS.put (show w.heap.size + 2 ≤ w.heap.size + 1 + 1 by omega) n (.bool true))
              have HU2 := hU.set n (.bool true)
              rw [usedC_set _ hn24, ← HT.out] at HU2
              have HU3 := Lib.hid HU2
              have HO2 := Lib.hid (hown.set (w.heap.size + 1 + 1) n (.bool true) _ _ hU (by decide) (Nat.zero_le _))
              clear c3 HK hm hn HU2
              go_wp2_with fail
              refine (HC3.out _).mono ?_
              rintro e wq ⟨rfl, rfl⟩
              go_wp2_with fail
              go_roundw
              case rel => exact ⟨k + 1, by omega, by go_num, HS2.out, HU3.out, HO2.out, HK2⟩
              case measure => simp [intOf]; omega
        · have HFF := HF.out (ssc_end hlt HK.out.1 HK.out.2)
          have y6 := hS.b1.cell 6
          have y7 := hS.b1.cell 7
          simp only [List.getElem?_toArray, List.getElem?_cons_zero, List.getElem?_cons_succ] at y6 y7
          cases c4 : inB r.r.app 0 (v.t.nsec - 1) with
          | false =>
            have HX : Hid (rouB v.t r.r = false) := Lib.hid (by rw [HFF, c4]; rfl)
            have HC4 := Lib.hid fun W => twithinC c4 W (by omega)
            clear c4 HFF HK hU hown
            go_wp2_with fail
            refine (HC4.out _).mono ?_
            rintro e wq ⟨rfl, rfl⟩
            go_wp2_with fail
            go_ret
            exact ⟨ret_b HX.out.symm, hS.bel⟩
          | true =>
            have HX : Hid (rouB v.t r.r = decide (1 ≤ r.r.len)) := Lib.hid (by rw [HFF, c4, Bool.true_and])
            have HC4 := Lib.hid fun W => twithinC c4 W (by omega)
            clear c4 HFF HK hU hown
            go_wp2_with fail
            refine (HC4.out _).mono ?_
            rintro e wq ⟨rfl, rfl⟩
            go_wp2_with fail
            go_ret
            exact ⟨ret_b HX.out.symm, hS.bel⟩
    · have hxb : (r.r.ext != -1) = true := by simp [hx]
      cases c2 : inB r.r.ext 0 (v.t.nsig - 1) with
      | false =>
        have HX := Lib.hid (rou_no2 hx c2)
        have HC2 := Lib.hid fun W => twithinC c2 W (by omega)
        clear c1 c2 hx
        go_enter Tryz.func35, Tryz.ntmps35
        go_wp2_with fail
        refine (HC1.out _).mono ?_
        rintro e wq ⟨rfl, rfl⟩
        go_wp2_with fail
        refine (HC2.out _).mono ?_
        rintro e wq ⟨rfl, rfl⟩
        go_wp2_with fail
        go_ret
        exact ⟨ret_b HX.out.symm, hB⟩
      | true =>
        have HE := Lib.hid (ext_yes (t := v.t) (r := r.r) hg1 (Or.inr c2))
        have HC2 := Lib.hid fun W => twithinC c2 W (by omega)
        clear c2 hx
        by_cases p1 : r.r.path.length < 1
        · have HX := Lib.hid (rou_no3 (t := v.t) (Or.inl p1))
          have p1i : ((r.r.path.length : Int) < 1) := by omega
          clear p1
          go_enter Tryz.func35, Tryz.ntmps35
          go_wp2_with fail
          refine (HC1.out _).mono ?_
          rintro e wq ⟨rfl, rfl⟩
          go_wp2_with fail
          refine (HC2.out _).mono ?_
          rintro e wq ⟨rfl, rfl⟩
          go_wp2_with fail
          go_ret
          exact ⟨ret_b HX.out.symm, hB⟩
        by_cases p2 : 12 < r.r.path.length
        · have HX := Lib.hid (rou_no3 (t := v.t) (Or.inr p2))
          have p1i : ¬ ((r.r.path.length : Int) < 1) := by omega
          have p2i : ((12 : Int) < r.r.path.length) := by omega
          clear p1 p2
          go_enter Tryz.func35, Tryz.ntmps35
          go_wp2_with fail
          refine (HC1.out _).mono ?_
          rintro e wq ⟨rfl, rfl⟩
          go_wp2_with fail
          refine (HC2.out _).mono ?_
          rintro e wq ⟨rfl, rfl⟩
          go_wp2_with fail
          go_ret
          exact ⟨ret_b HX.out.symm, hB⟩
        by_cases p3 : r.r.secs.length = 0
        · have HX := Lib.hid (rou_no4 (t := v.t) p3)
          have p1i : ¬ ((r.r.path.length : Int) < 1) := by omega
          have p2i : ¬ ((12 : Int) < r.r.path.length) := by omega
          have p3i : ((r.r.secs.length : Int) == 0) = true := by rw [beq_iff_eq]; omega
          clear p1 p2 p3
          go_enter Tryz.func35, Tryz.ntmps35
          go_wp2_with fail
          refine (HC1.out _).mono ?_
          rintro e wq ⟨rfl, rfl⟩
          go_wp2_with fail
          refine (HC2.out _).mono ?_
          rintro e wq ⟨rfl, rfl⟩
          go_wp2_with fail
          go_ret
          exact ⟨ret_b HX.out.symm, hB⟩
        have HF := Lib.hid (rou_fin (t := v.t) (r := r.r) c1 HE.out p1 p2 p3)
        have HP3 := Lib.hid p3
        have p1i : ¬ ((r.r.path.length : Int) < 1) := by omega
        have p2i : ¬ ((12 : Int) < r.r.path.length) := by omega
        have p3i : ((r.r.secs.length : Int) == 0) = false := by rw [beq_eq_false_iff_ne]; omega
        clear p1 p2 p3 c1
        go_enter Tryz.func35, Tryz.ntmps35
        go_wp2_with fail
        refine (HC1.out _).mono ?_
        rintro e wq ⟨rfl, rfl⟩
        go_wp2_with fail
        refine (HC2.out _).mono ?_
        rintro e wq ⟨rfl, rfl⟩
        go_wp2_with fail
        have hU : Blk ((((w.alloc (.cells #[.slice v.A1 v.t.rts.length v.c1, .slice v.A2 v.t.pts.length v.c2, .slice v.A3 v.t.homes.length v.c3, .int .i64 v.t.nsec, .int .i64 v.t.nsig] 25)).alloc (.cells #[.string (bs r.r.name), .int .i64 r.r.ent, .int .i64 r.r.ext, .slice r.A1 r.r.path.length r.c1, .slice r.A2 r.r.pts.length r.c2, .slice r.A3 r.r.secs.length r.c3, .int .i64 r.r.app, .int .i64 r.r.len, .slice r.A4 r.r.over.length r.c4, .slice r.A5 r.r.opts.length r.c5, .slice r.A6 r.r.osecs.length r.c6, .slice r.A7 r.r.flk.length r.c7, .slice r.A8 r.r.grd.length r.c8, .slice r.A9 r.r.gap.length r.c9] 41)).alloc (.cells #[.bool false, .bool false, .bool false, .bool false, .bool false, .bool false, .bool false, .bool false, .bool false, .bool false, .bool false, .bool false, .bool false, .bool false, .bool false, .bool false, .bool false, .bool false, .bool false, .bool false, .bool false, .bool false, .bool false, .bool false] 96)).alloc (.cells #[.slice r.A3 r.r.secs.length r.c3, .slice r.A6 r.r.osecs.length r.c6] 23)) (w.heap.size + 1 + 1) 96 (usedC []) := (Blk.new _ _ _ _ (by simp)).alloc _
        have hA : Blk ((((w.alloc (.cells #[.slice v.A1 v.t.rts.length v.c1, .slice v.A2 v.t.pts.length v.c2, .slice v.A3 v.t.homes.length v.c3, .int .i64 v.t.nsec, .int .i64 v.t.nsig] 25)).alloc (.cells #[.string (bs r.r.name), .int .i64 r.r.ent, .int .i64 r.r.ext, .slice r.A1 r.r.path.length r.c1, .slice r.A2 r.r.pts.length r.c2, .slice r.A3 r.r.secs.length r.c3, .int .i64 r.r.app, .int .i64 r.r.len, .slice r.A4 r.r.over.length r.c4, .slice r.A5 r.r.opts.length r.c5, .slice r.A6 r.r.osecs.length r.c6, .slice r.A7 r.r.flk.length r.c7, .slice r.A8 r.r.grd.length r.c8, .slice r.A9 r.r.gap.length r.c9] 41)).alloc (.cells #[.bool false, .bool false, .bool false, .bool false, .bool false, .bool false, .bool false, .bool false, .bool false, .bool false, .bool false, .bool false, .bool false, .bool false, .bool false, .bool false, .bool false, .bool false, .bool false, .bool false, .bool false, .bool false, .bool false, .bool false] 96)).alloc (.cells #[.slice r.A3 r.r.secs.length r.c3, .slice r.A6 r.r.osecs.length r.c6] 23)) (w.heap.size + 1 + 1 + 1) 23 #[.slice r.A3 r.r.secs.length r.c3, .slice r.A6 r.r.osecs.length r.c6] := Blk.new _ _ _ _ (by simp)
        have hS2 := (hS.alloc (.cells #[.bool false, .bool false, .bool false, .bool false, .bool false, .bool false, .bool false, .bool false, .bool false, .bool false, .bool false, .bool false, .bool false, .bool false, .bool false, .bool false, .bool false, .bool false, .bool false, .bool false, .bool false, .bool false, .bool false, .bool false] 96)).alloc (.cells #[.slice r.A3 r.r.secs.length r.c3, .slice r.A6 r.r.osecs.length r.c6] 23)
        have hz2 := hA.lt
        generalize (((w.alloc (.cells #[.slice v.A1 v.t.rts.length v.c1, .slice v.A2 v.t.pts.length v.c2, .slice v.A3 v.t.homes.length v.c3, .int .i64 v.t.nsec, .int .i64 v.t.nsig] 25)).alloc (.cells #[.string (bs r.r.name), .int .i64 r.r.ent, .int .i64 r.r.ext, .slice r.A1 r.r.path.length r.c1, .slice r.A2 r.r.pts.length r.c2, .slice r.A3 r.r.secs.length r.c3, .int .i64 r.r.app, .int .i64 r.r.len, .slice r.A4 r.r.over.length r.c4, .slice r.A5 r.r.opts.length r.c5, .slice r.A6 r.r.osecs.length r.c6, .slice r.A7 r.r.flk.length r.c7, .slice r.A8 r.r.grd.length r.c8, .slice r.A9 r.r.gap.length r.c9] 41)).alloc (.cells #[.bool false, .bool false, .bool false, .bool false, .bool false, .bool false, .bool false, .bool false, .bool false, .bool false, .bool false, .bool false, .bool false, .bool false, .bool false, .bool false, .bool false, .bool false, .bool false, .bool false, .bool false, .bool false, .bool false, .bool false] 96)).alloc (.cells #[.slice r.A3 r.r.secs.length r.c3, .slice r.A6 r.r.osecs.length r.c6] 23) = W4 at *
        have HCC := Lib.hid (concat_any [r.r.secs, r.r.osecs] (some ⟨w.heap.size + 1 + 1 + 1, 0, none⟩) 2 W4 (rds_two hA (hrr.r3.now hS2.bel) (hrr.r6.now hS2.bel) hrr.o.n3 hrr.o.n6) (by simp) (by intro l hl; simp only [List.mem_cons, List.not_mem_nil, or_false] at hl; rcases hl with rfl | rfl <;> assumption))
        refine HCC.out.mono ?_
        rintro e w5 ⟨v5, rfl, hlow, hq⟩
        have hown := hlow.ownI
        rw [show [r.r.secs, r.r.osecs].flatten = r.r.secs ++ r.r.osecs by simp] at hown
        have hS5 := hS2.now hq
        have hU5 := hU.now hq
        have HNO := Lib.hid (rou_no5 (t := v.t) (r := r.r))
        have HL0 : 0 < (r.r.secs ++ r.r.osecs).length := by have := HP3.out; rw [List.length_append]; omega
        have hLm : (r.r.secs ++ r.r.osecs).length ≤ 90000 := by rw [List.length_append]; omega
        clear hlow hq hS2 hU hA HCC hS x3 x4 y1 y2 y3 y5 y10 hB p1i p2i p3i HP3 hrr
        generalize r.r.secs ++ r.r.osecs = L at *
        obtain ⟨g6, c6, rfl, hc6⟩ := own_ints hown HL0
        go_wp2_with fail
        go_loopw [50] (fun n wr => ∃ k : Nat, k ≤ L.length ∧ n = .int .i64 k ∧ RS w v r wr ∧ Blk wr (w.heap.size + 1 + 1) 96 (usedC (L.take k)) ∧ OwnR cI wr W4.heap.size 3 (.slice (some ⟨g6, 0, none⟩) L.length c6) L 0 ∧ Hid (SscI v.t L k)) (fun n _ => L.length - (intOf n).toNat)
        case atStart => exact ⟨0, Nat.zero_le _, rfl, hS5, hU5, hown, Lib.hid ⟨by simp, by simp⟩⟩
        case round =>
          clear hS5 hU5 hown
          obtain ⟨k, hk, rfl, hS, hU, hown, HK⟩ := hrel
          have x3 := hS.b0.cell 3
          simp only [List.getElem?_toArray, List.getElem?_cons_zero, List.getElem?_cons_succ] at x3
          by_cases hlt : k < L.length
          · have hki : (k : Int) < (L.length : Int) := by omega
            have y0 := (own_cellI hown hlt).1
            rw [Nat.zero_add] at y0
            cases c3 : inB L[k] 0 (v.t.nsec - 1) with
            | false =>
              have HX := Lib.hid (HNO.out (ssc_no1 hlt c3))
              have HC3 := Lib.hid fun W => twithinC c3 W (by omega)
              clear c3 HK
              generalize L[k] = q at *
              go_wp2_with fail
              refine (HC3.out _).mono ?_
              rintro e wq ⟨rfl, rfl⟩
              go_wp2_with fail
              go_ret
              exact ⟨ret_b HX.out.symm, hS.bel⟩
            | true =>
              have HC3 := Lib.hid fun W => twithinC c3 W (by omega)
              obtain ⟨n, hn⟩ := Int.eq_ofNat_of_zero_le (inB_iff.1 c3).1
              have hn24 : n < 24 := by have := (inB_iff.1 c3).2; omega
              have hni : (n : Int) < 24 := by omega
              have u0 := (hU.cell n).trans (usedC_get _ hn24)
              have hf := hU.free n
              by_cases hm : L[k] ∈ L.take k
              · have HX := Lib.hid (HNO.out (ssc_no2 hlt hm))
                rw [hn] at hm
                rw [decide_eq_true hm] at u0
                clear c3 HK hm
                rw [hn] at y0 HC3
                clear hn
                go_wp2_with fail
                refine (HC3.out _).mono ?_
                rintro e wq ⟨rfl, rfl⟩
                go_wp2_with fail
                go_ret
                exact ⟨ret_b HX.out.symm, hS.bel⟩
              · have HK2 : Hid (SscI v.t L (k + 1)) := Lib.hid ⟨all_take2 hlt HK.out.1 c3, nodup_take hlt HK.out.2 hm⟩
                have HT : Hid (L.take (k + 1) = L.take k ++ [(n : Int)]) := Lib.hid (by rw [List.take_succ_eq_append_getElem hlt, hn])
                rw [hn] at hm
                rw [decide_eq_false hm] at u0
                rw [hn] at y0 HC3
                have HS2 := Lib.hid (hS.put (show w.heap.size + 2 ≤ w.heap.size + 1 + 1 by omega) n (.bool true))
                have HU2 := hU.set n (.bool true)
                rw [usedC_set _ hn24, ← HT.out] at HU2
                have HU3 := Lib.hid HU2
                have HO2 := Lib.hid (hown.set (w.heap.size + 1 + 1) n (.bool true) _ _ hU (by decide) (Nat.zero_le _))
                clear c3 HK hm hn HU2
                go_wp2_with fail
                refine (HC3.out _).mono ?_
                rintro e wq ⟨rfl, rfl⟩
                go_wp2_with fail
                go_roundw
                case rel => exact ⟨k + 1, by omega, by go_num, HS2.out, HU3.out, HO2.out, HK2⟩
                case measure => simp [intOf]; omega
          · have HFF := HF.out (ssc_end hlt HK.out.1 HK.out.2)
            have y6 := hS.b1.cell 6
            have y7 := hS.b1.cell 7
            simp only [List.getElem?_toArray, List.getElem?_cons_zero, List.getElem?_cons_succ] at y6 y7
            cases c4 : inB r.r.app 0 (v.t.nsec - 1) with
            | false =>
              have HX : Hid (rouB v.t r.r = false) := Lib.hid (by rw [HFF, c4]; rfl)
              have HC4 := Lib.hid fun W => twithinC c4 W (by omega)
              clear c4 HFF HK hU hown
              go_wp2_with fail
              refine (HC4.out _).mono ?_
              rintro e wq ⟨rfl, rfl⟩
              go_wp2_with fail
              go_ret
              exact ⟨ret_b HX.out.symm, hS.bel⟩
            | true =>
              have HX : Hid (rouB v.t r.r = decide (1 ≤ r.r.len)) := Lib.hid (by rw [HFF, c4, Bool.true_and])
              have HC4 := Lib.hid fun W => twithinC c4 W (by omega)
              clear c4 HFF HK hU hown
              go_wp2_with fail
              refine (HC4.out _).mono ?_
              rintro e wq ⟨rfl, rfl⟩
              go_wp2_with fail
              go_ret
              exact ⟨ret_b HX.out.symm, hS.bel⟩
end Go.Proofs.YtlblfblkallnhaaGreatDoor
