/- The chapter's examples hold. -/
import Derived.Test.YtfedhgkpgihmoaaDoorWdWalksH
namespace Go.Proofs.YtfedhgkpgihmoaaDoor
set_option linter.unusedVariables false
set_option linter.unusedSimpArgs false
open Go.RowKit
attribute [local go_sem] bs_size bs_get bs_append bs_extract bs_toList
theorem ex_lines1 : linesF [97, 32, 98, 10, 99, 10] = ([[[97], [98]], [[99]]], 0, 0) := by decide +kernel
theorem ex_lines2 : linesF [97, 32, 98, 10, 99] = ([], 2, 4) := by decide +kernel
theorem ex_join : joinF [[[97], [98]], [[99]]] = ([97, 32, 98, 10, 99, 10], 0) := by decide +kernel
theorem ex_int1 : intF [45, 49, 50] = (-12, 0) := by decide +kernel
theorem ex_int2 : intF [48, 48, 55] = (0, 4) := by decide +kernel
theorem ex_list : listF [51, 44, 45, 49, 44, 51] = ([3, -1, 3], 0) := by decide +kernel
theorem ex_format : Lib.itoa (-12) = [45, 49, 50] := by
  rw [Lib.itoa, if_pos (by decide)]
  show 45 :: Lib.decDigits 12 = _
  rw [Lib.decDigits_two (by omega) (by omega)]
  rfl
theorem ex_name1 : nameB [115, 95, 49] = true := by decide +kernel
theorem ex_name2 : nameB [49, 115] = false := by decide +kernel
theorem linesC {s : List UInt8} {r : Lns × Nat × Int} (h : linesF s = r) (w : World) (E : Env w) (hs : s.length ≤ maxLen) : Calls Tryd.prog 12 #[.string (bs s)] w (LinesPost w r) := h ▸ lines_any s w E hs
theorem intC {s : List UInt8} {n x : Int} (h : intF s = (n, x)) (w : World) (E : Env w) (hs : s.length ≤ 281474976710656) : Calls Tryd.prog 18 #[.string (bs s)] w fun e w' => e = .returned (.tuple #[.int .i64 n, .int .i64 x]) ∧ Below w.heap.size w w' := by
  have := int_any s w E hs
  rw [h] at this
  exact this
theorem listC {s : List UInt8} {r : List Int × Int} (h : listF s = r) (w : World) (E : Env w) (hs : s.length ≤ 90000) : Calls Tryd.prog 24 #[.string (bs s)] w (ListPost w r) := h ▸ list_any s w E hs
theorem joinC {ls : Lns} {t : List UInt8} {x : Int} (h : joinF ls = (t, x)) (A : Option Addr) (cap : Nat) (w : World) (hr : RdS (cL cS) w (Lt w) A ls) (hl : ls.length ≤ 100000000) (hcn : cnt ls ≤ 100000000) :
    Calls Tryd.prog 16 #[.slice A ls.length cap] w fun e w' => e = .returned (.tuple #[.string (bs t), .int .i64 x]) ∧ Below w.heap.size w w' := by
  have := join_prog ls A cap w hr hl hcn
  rw [h] at this
  exact this
theorem nameC {s : List UInt8} {b : Bool} (h : nameB s = b) (w : World) (hs : s.length ≤ maxLen) : Calls Tryd.prog 22 #[.string (bs s)] w fun e w' => e = .returned (.bool b) ∧ Below w.heap.size w w' := h ▸ name_any s w hs
theorem sameC {a b : Lns} {r : Bool} (h : decide (a = b) = r) (A B : Option Addr) (ca cb : Nat) (w : World) (ha : RdS (cL cS) w (Lt w) A a) (hb : RdS (cL cS) w (Lt w) B b) (la : a.length ≤ maxLen) (lb : b.length ≤ maxLen) :
    Calls Tryd.prog 14 #[.slice A a.length ca, .slice B b.length cb] w fun e w' => e = .returned (.bool r) ∧ Below w.heap.size w w' :=
  (same_any a b A B ca cb w ha hb la lb).mono fun _ _ ⟨h1, h2⟩ => ⟨h ▸ h1, h2.below⟩
theorem sameIntsC {a b : List Int} {r : Bool} (h : decide (a = b) = r) (A B : Option Addr) (ca cb : Nat) (w : World) (ha : RdS cI w (Lt w) A a) (hb : RdS cI w (Lt w) B b) (la : a.length ≤ maxLen) (lb : b.length ≤ maxLen) :
    Calls Tryd.prog 26 #[.slice A a.length ca, .slice B b.length cb] w fun e w' => e = .returned (.bool r) ∧ Below w.heap.size w w' :=
  (sameInts_any a b A B ca cb w ha hb la lb).mono fun _ _ ⟨h1, h2⟩ => ⟨h ▸ h1, h2.below⟩
/-- Rows that the call lays by literals. -/
theorem rds_lit (w : World) (t T : TypeId) :
    RdS (cL cS) (((w.alloc (.cells #[.string (bs [97]), .string (bs [98])] t)).alloc (.cells #[.string (bs [99])] t)).alloc (.cells #[.slice (some ⟨w.heap.size, 0, none⟩) 2 2, .slice (some ⟨w.heap.size + 1, 0, none⟩) 1 1] T)) (Lt (((w.alloc (.cells #[.string (bs [97]), .string (bs [98])] t)).alloc (.cells #[.string (bs [99])] t)).alloc (.cells #[.slice (some ⟨w.heap.size, 0, none⟩) 2 2, .slice (some ⟨w.heap.size + 1, 0, none⟩) 1 1] T))) (some ⟨w.heap.size + 2, 0, none⟩) [[[97], [98]], [[99]]] := by
  have h1 := rds_new w [[97], [98]] t w.heap.size rfl (by intro x hx; simp at hx; rcases hx with rfl | rfl <;> (unfold maxLen; simp)) (Lt (w.alloc (.cells #[.string (bs [97]), .string (bs [98])] t))) (show _ < _ by simp)
  have h2 := rds_new (w.alloc (.cells #[.string (bs [97]), .string (bs [98])] t)) [[99]] t (w.heap.size + 1) (by simp) (by intro x hx; simp at hx; subst hx; unfold maxLen; simp) (Lt ((w.alloc (.cells #[.string (bs [97]), .string (bs [98])] t)).alloc (.cells #[.string (bs [99])] t))) (show _ < _ by simp)
  have b2 : ∀ (W : World) (o : Obj), Below W.heap.size W (W.alloc o) := fun W o => (Below.refl _ _).alloc (Nat.le_refl _) o
  have h1' := (h1.now (b2 _ (.cells #[.string (bs [99])] t))).now (b2 _ (.cells #[.slice (some ⟨w.heap.size, 0, none⟩) 2 2, .slice (some ⟨w.heap.size + 1, 0, none⟩) 1 1] T))
  have h2' := h2.now (b2 _ (.cells #[.slice (some ⟨w.heap.size, 0, none⟩) 2 2, .slice (some ⟨w.heap.size + 1, 0, none⟩) 1 1] T))
  refine fun _ => ⟨_, _, rfl, show _ < _ by simp, fun i x hx => ?_⟩
  have hcell : ∀ j, (((w.alloc (.cells #[.string (bs [97]), .string (bs [98])] t)).alloc (.cells #[.string (bs [99])] t)).alloc (.cells #[.slice (some ⟨w.heap.size, 0, none⟩) 2 2, .slice (some ⟨w.heap.size + 1, 0, none⟩) 1 1] T)).cell? ⟨w.heap.size + 2, j, none⟩ = (#[Value.slice (some ⟨w.heap.size, 0, none⟩) 2 2, .slice (some ⟨w.heap.size + 1, 0, none⟩) 1 1] : Array Value)[j]? := fun j => World.cell?_alloc_at _ _ _ _ (by simp)
  match i, hx with
  | 0, hx =>
    simp at hx; subst hx
    refine ⟨[.slice (some ⟨w.heap.size, 0, none⟩) 2 2], ⟨_, _, rfl, ⟨by unfold maxLen; simp, by simp⟩, h1'⟩, fun j u hu => ?_⟩
    match j, hu with
    | 0, hu => simp at hu; subst hu; rw [hcell]; rfl
    | j + 1, hu => simp at hu
  | 1, hx =>
    simp at hx; subst hx
    refine ⟨[.slice (some ⟨w.heap.size + 1, 0, none⟩) 1 1], ⟨_, _, rfl, ⟨by unfold maxLen; simp, by simp⟩, h2'⟩, fun j u hu => ?_⟩
    match j, hu with
    | 0, hu => simp at hu; subst hu; rw [hcell]; rfl
    | j + 1, hu => simp at hu
  | i + 2, hx => simp at hx
/-- A new row of numbers reads as its list. -/
theorem rdi_new (w : World) (xs : List Int) (T : TypeId) (g : Nat) (hg : g = w.heap.size) (hx : ∀ x ∈ xs, I64n x) (S : Nat → Prop) (hS : S g) : RdS cI (w.alloc (.cells (xs.map fun x => Value.int .i64 x).toArray T)) S (some ⟨g, 0, none⟩) xs := by
  subst hg
  refine fun _ => ⟨_, _, rfl, hS, fun i x hi => ⟨[.int .i64 x], ⟨rfl, hx x (List.mem_of_getElem? hi)⟩, fun j u hu => ?_⟩⟩
  match j, hu with
  | 0, hu =>
    simp at hu
    subst hu
    rw [World.cell?_alloc_at _ _ _ _ rfl]
    have : 0 + i * cI.size + 0 = i := by simp [cI]
    rw [this]
    simp [hi]
  | j + 1, hu => simp at hu
theorem rdi_lit (w : World) (T : TypeId) : RdS cI (w.alloc (.cells #[.int .i64 3, .int .i64 (-1), .int .i64 3] T)) (Lt (w.alloc (.cells #[.int .i64 3, .int .i64 (-1), .int .i64 3] T))) (some ⟨w.heap.size, 0, none⟩) [3, -1, 3] :=
  rdi_new w [3, -1, 3] T _ rfl (by intro x hx; simp at hx; rcases hx with rfl | rfl | rfl <;> (constructor <;> decide)) _ (show _ < _ by simp)
theorem bel_alloc3 {w0 w : World} (h : Below w0.heap.size w0 w) (a b c : Obj) : Below w0.heap.size w0 (((w.alloc a).alloc b).alloc c) := ((h.alloc h.size a).alloc (by have := h.size; simp; omega) b).alloc (by have := h.size; simp; omega) c
set_option maxRecDepth 100000 in
set_option maxHeartbeats 8000000 in
theorem alive_any (w : World) (E : Env w) : Calls Tryd.prog 11 #[] w fun e w' => e = .returned (.bool true) ∧ Below w.heap.size w w' := by
  go_enter Tryd.func11, Tryd.ntmps11
  go_wp2_with fail
  refine (linesC ex_lines1 _ E (by unfold maxLen; simp)).mono ?_
  rintro e w1 ⟨A1, c1, rfl, _, hr1, hb1⟩
  go_wp2_with fail
  refine (linesC ex_lines2 _ (E.now hb1) (by unfold maxLen; simp)).mono ?_
  rintro e w2 ⟨A2, c2, rfl, _, _, hb2⟩
  have hr2 := hr1.now hb2
  have hB2 := bel_then hb1 hb1.size hb2
  clear hr1 hb1 hb2
  go_wp2_with fail
  have hj := rds_lit w2 9 33
  have hB3 := bel_alloc3 hB2 (.cells #[.string (bs [97]), .string (bs [98])] 9) (.cells #[.string (bs [99])] 9) (.cells #[.slice (some ⟨w2.heap.size, 0, none⟩) 2 2, .slice (some ⟨w2.heap.size + 1, 0, none⟩) 1 1] 33)
  have hr3 := ((hr2.now ((Below.refl _ _).alloc (Nat.le_refl _) (.cells #[.string (bs [97]), .string (bs [98])] 9))).now ((Below.refl _ _).alloc (Nat.le_refl _) (.cells #[.string (bs [99])] 9))).now ((Below.refl _ _).alloc (Nat.le_refl _) (.cells #[.slice (some ⟨w2.heap.size, 0, none⟩) 2 2, .slice (some ⟨w2.heap.size + 1, 0, none⟩) 1 1] 33))
  refine (joinC ex_join _ _ _ hj (by simp) (by simp [cnt])).mono ?_
  rintro e w4 ⟨rfl, hb4⟩
  have hB4 := bel_then hB3 hB3.size hb4
  have hr4 := hr3.now hb4
  clear hr3 hr2 hB3 hB2 hb4 hj
  go_wp2_with fail
  refine (intC ex_int1 _ (E.now hB4) (by simp)).mono ?_
  rintro e w5 ⟨rfl, hb5⟩
  have hB5 := bel_then hB4 hB4.size hb5
  have hr5 := hr4.now hb5
  clear hr4 hB4 hb5
  go_wp2_with fail
  refine (intC ex_int2 _ (E.now hB5) (by simp)).mono ?_
  rintro e w6 ⟨rfl, hb6⟩
  have hB6 := bel_then hB5 hB5.size hb6
  have hr6 := hr5.now hb6
  clear hr5 hB5 hb6
  go_wp2_with fail
  refine (listC ex_list _ (E.now hB6) (by simp)).mono ?_
  rintro e w7 ⟨A7, c7, rfl, hi7, hb7⟩
  have hB7 := bel_then hB6 hB6.size hb7
  have hr7 := hr6.now hb7
  clear hr6 hB6 hb7
  go_wp2_with fail
  have hj := rds_lit w7 9 33
  have hB8 := bel_alloc3 hB7 (.cells #[.string (bs [97]), .string (bs [98])] 9) (.cells #[.string (bs [99])] 9) (.cells #[.slice (some ⟨w7.heap.size, 0, none⟩) 2 2, .slice (some ⟨w7.heap.size + 1, 0, none⟩) 1 1] 33)
  have hr8 := ((hr7.now ((Below.refl _ _).alloc (Nat.le_refl _) (.cells #[.string (bs [97]), .string (bs [98])] 9))).now ((Below.refl _ _).alloc (Nat.le_refl _) (.cells #[.string (bs [99])] 9))).now ((Below.refl _ _).alloc (Nat.le_refl _) (.cells #[.slice (some ⟨w7.heap.size, 0, none⟩) 2 2, .slice (some ⟨w7.heap.size + 1, 0, none⟩) 1 1] 33))
  have hi8 := ((hi7.now ((Below.refl _ _).alloc (Nat.le_refl _) (.cells #[.string (bs [97]), .string (bs [98])] 9))).now ((Below.refl _ _).alloc (Nat.le_refl _) (.cells #[.string (bs [99])] 9))).now ((Below.refl _ _).alloc (Nat.le_refl _) (.cells #[.slice (some ⟨w7.heap.size, 0, none⟩) 2 2, .slice (some ⟨w7.heap.size + 1, 0, none⟩) 1 1] 33))
  refine (sameC (a := [[[97], [98]], [[99]]]) (b := [[[97], [98]], [[99]]]) (r := true) (by decide) _ _ _ _ _ hr8 hj (by unfold maxLen; simp) (by unfold maxLen; simp)).mono ?_
  rintro e w9 ⟨rfl, hb9⟩
  have hB9 := bel_then hB8 hB8.size hb9
  have hi9 := hi8.now hb9
  clear hr8 hr7 hi8 hi7 hB8 hB7 hb9 hj
  go_wp2_with fail
  have hj := rdi_lit w9 3
  have hbi : Below w9.heap.size w9 (w9.alloc (.cells #[.int .i64 3, .int .i64 (-1), .int .i64 3] 3)) := (Below.refl _ _).alloc (Nat.le_refl _) _
  refine (sameIntsC (a := [3, -1, 3]) (b := [3, -1, 3]) (r := true) (by decide) _ _ _ _ _ (hi9.now hbi) hj (by unfold maxLen; simp) (by unfold maxLen; simp)).mono ?_
  rintro e w10 ⟨rfl, hb10⟩
  have hB10 := bel_then hB9 hB9.size (bel_then hbi hbi.size hb10)
  clear hi9 hB9 hbi hb10 hj
  go_wp2_with fail
  have hfm := format_any (-12) w10 (E.now hB10) (by decide) (by decide)
  rw [ex_format] at hfm
  refine hfm.mono ?_
  rintro e w11 ⟨rfl, hb11⟩
  have hB11 := bel_then hB10 hB10.size hb11
  clear hB10 hb11 hfm
  go_wp2_with fail
  refine (nameC ex_name1 _ (by unfold maxLen; simp)).mono ?_
  rintro e w12 ⟨rfl, hb12⟩
  have hB12 := bel_then hB11 hB11.size hb12
  clear hB11 hb12
  go_wp2_with fail
  refine (nameC ex_name2 _ (by unfold maxLen; simp)).mono ?_
  rintro e w13 ⟨rfl, hb13⟩
  have hB13 := bel_then hB12 hB12.size hb13
  clear hB12 hb13
  go_wp2_with fail
  refine (fmtList_any [] none 0 _ (E.now hB13) (RdS.nil _ _ _ _) (by simp)).mono ?_
  rintro e w14 ⟨rfl, hb14⟩
  have hB14 := bel_then hB13 hB13.size hb14
  clear hB13 hb14
  go_wp2_with fail
  go_ret
  exact ⟨rfl, hB14⟩
end Go.Proofs.YtfedhgkpgihmoaaDoor
