/- reader.add, case by case. reader.add: the layout's own word; the elements. -/
import Derived.Test.YtopoknocfoiiaaaGreatDoorPlReadB
namespace Go.Proofs.YtopoknocfoiiaaaGreatDoor
set_option linter.unusedVariables false
set_option linter.unusedSimpArgs false
open Go.RowKit
attribute [local go_sem] bs_size bs_get bs_append bs_extract bs_toList
attribute [-go_sem] run_equalIn_agg
theorem blk_cells {w : World} {g : Nat} {t : TypeId} {ys : List Value} (h : Blk w g t ys.toArray) : ∀ (j : Nat) (u : Value), ys[j]? = some u → w.cell? ⟨g, j, none⟩ = some u := fun j u hj => (h.cell j).trans (by simpa using hj)

theorem infoJ : (Tryz.prog.info? 39).map (fun i => (i.zero, i.size, i.bytes)) = some (some (.agg #[.int .i64 0, .int .i64 0, .int .i64 0, .int .i64 0]), 4, 32) := by kernel_rfl
theorem infoG : (Tryz.prog.info? 41).map (fun i => (i.zero, i.size, i.bytes)) = some (some (.agg #[.string ByteArray.empty, .int .i64 0, .int .i64 0, .int .i64 0]), 4, 40) := by kernel_rfl
theorem infoB : (Tryz.prog.info? 51).map (fun i => (i.zero, i.size, i.bytes)) = some (some (.agg #[.int .i64 0, .int .i64 0, .int .i64 0]), 3, 24) := by kernel_rfl
set_option maxRecDepth 100000 in
set_option maxHeartbeats 4000000 in
theorem add_section (w : World) (g : Nat) (l : Lay) (p : Int) (v1 v2 v3 v4 v5 : Value) (h : RW w g l p v1 v2 v3 v4 v5) (vv : Value) (s : List UInt8) (b off n c : Nat) (hb : b < g) (hn : 0 < n) (y : w.cell? ⟨b, off, none⟩ = some (.string (bs s))) (hsl : s.length ≤ maxLen) (hl : l.secs.length ≤ 100000) :
    Calls Tryz.prog 52 #[.pointer (some ⟨g, 0, none⟩), .string (bs sectionW), .slice (some ⟨b, off, none⟩) n c, vv] w fun e w' => e = .returned (.tuple #[]) ∧ RWS w' g { l with secs := l.secs ++ [s] } p ∧ Below g w w' := by
  have hni : (0 : Int) < (n : Int) := by omega
  obtain ⟨i0, hi0, hz0, hz1, hz2⟩ := info_parts infoStrT
  have x1 := h.x1
  have hS : ∀ w', Below g w w' → (fun w' => w'.cell? ⟨b, off, none⟩ = some (.string (bs s)) ∧ Below g w w') w' := fun w' hq => ⟨(hq.cell (p := ⟨b, off, none⟩) hb).trans y, hq⟩
  go_enter Tryz.func52, Tryz.ntmps52
  go_wp2_with fail
  refine wp_region_held_drew (S := (fun w' => w'.cell? ⟨b, off, none⟩ = some (.string (bs s)) ∧ Below g w w')) (by kernel_rfl) (hS _ ((Below.refl g w).drew)) (fun hHeld => ?_)
  refine wpAnyH_take (i := 0) (oi := Go.Oper.mk (Option.some 60) (Go.Op.move (Go.Operand.tmp 8)) 114 "reader.go:98" #[] Option.none) (v := ?_) rfl (by kernel_rfl) (by kernel_rfl) (by kernel_rfl) (fun _ _ _ h => h) (Or.inl ⟨by rfl, ?_⟩) (by assumption) ?_
  rotate_left
  · intro W hSw; (try dsimp only at hSw); go_simp; (first | done | with_reducible rfl)
  try simp only [Act.put, List.setIfInBounds_toArray, List.set_cons_zero, List.set_cons_succ]
  refine wpAnyH_take (i := 1) (oi := Go.Oper.mk (Option.some 61) (Go.Op.move (Go.Operand.tmp 8)) 114 "reader.go:98" #[] Option.none) (v := ?_) rfl (by kernel_rfl) (by kernel_rfl) (by kernel_rfl) (fun _ _ _ h => h) (Or.inl ⟨by rfl, ?_⟩) (by assumption) ?_
  rotate_left
  · intro W hSw; (try dsimp only at hSw); go_simp; (first | done | with_reducible rfl)
  try simp only [Act.put, List.setIfInBounds_toArray, List.set_cons_zero, List.set_cons_succ]
  refine wpAnyH_take (i := 2) (oi := Go.Oper.mk (Option.some 62) (Go.Op.nilCheck (Go.Operand.tmp 61)) 0 "reader.go:98" #[Go.Edge.mk 1 Go.Ground.data] Option.none) (v := ?_) rfl (by kernel_rfl) (by kernel_rfl) (by kernel_rfl) (fun _ _ _ h => h) (Or.inl ⟨by rfl, ?_⟩) (by assumption) ?_
  rotate_left
  · intro W hSw; (try dsimp only at hSw); go_simp; (first | done | with_reducible rfl)
  try simp only [Act.put, List.setIfInBounds_toArray, List.set_cons_zero, List.set_cons_succ]
  refine wpAnyH_take (i := 3) (oi := Go.Oper.mk (Option.some 63) (Go.Op.fieldAddr 28 (Go.Operand.tmp 62) 1) 0 "reader.go:98" #[Go.Edge.mk 2 Go.Ground.data] Option.none) (v := ?_) rfl (by kernel_rfl) (by kernel_rfl) (by kernel_rfl) (fun _ _ _ h => h) (Or.inl ⟨by rfl, ?_⟩) (by assumption) ?_
  rotate_left
  · intro W hSw; (try dsimp only at hSw); go_simp; (first | done | with_reducible rfl)
  try simp only [Act.put, List.setIfInBounds_toArray, List.set_cons_zero, List.set_cons_succ]
  refine wpAnyH_take (i := 5) (oi := Go.Oper.mk (Option.some 65) (Go.Op.move (Go.Operand.tmp 2)) 22 "reader.go:98" #[] Option.none) (v := ?_) rfl (by kernel_rfl) (by kernel_rfl) (by kernel_rfl) (fun _ _ _ h => h) (Or.inl ⟨by rfl, ?_⟩) (by assumption) ?_
  rotate_left
  · intro W hSw; (try dsimp only at hSw); go_simp; (first | done | with_reducible rfl)
  try simp only [Act.put, List.setIfInBounds_toArray, List.set_cons_zero, List.set_cons_succ]
  refine wpAnyH_take (i := 6) (oi := Go.Oper.mk (Option.some 66) (Go.Op.indexAddr 22 (Go.Operand.tmp 65) (Go.Operand.const (Go.Value.int Go.IntKind.i64 0))) 0 "reader.go:98" #[Go.Edge.mk 5 Go.Ground.data] Option.none) (v := ?_) rfl (by kernel_rfl) (by kernel_rfl) (by kernel_rfl) (fun _ _ _ h => h) (Or.inl ⟨by rfl, ?_⟩) (by assumption) ?_
  rotate_left
  · intro W hSw; (try dsimp only at hSw); go_simp; (first | done | with_reducible rfl)
  try simp only [Act.put, List.setIfInBounds_toArray, List.set_cons_zero, List.set_cons_succ]
  refine wpAnyH_take (i := 7) (oi := Go.Oper.mk (Option.some 67) (Go.Op.load 9 (Go.Operand.tmp 66)) 9 "reader.go:98" #[Go.Edge.mk 6 Go.Ground.data] Option.none) (v := ?_) rfl (by kernel_rfl) (by kernel_rfl) (by kernel_rfl) (fun _ _ _ h => h) (Or.inl ⟨by rfl, ?_⟩) (by assumption) ?_
  rotate_left
  · intro W hSw; (try dsimp only at hSw); go_simp; (first | done | with_reducible rfl)
  try simp only [Act.put, List.setIfInBounds_toArray, List.set_cons_zero, List.set_cons_succ]
  refine wpAnyH_ready (rs := [4, 8]) (by kernel_rfl) (by simp) (AllReadyH.cons (o := Go.Oper.mk (Option.some 64) (Go.Op.load 22 (Go.Operand.tmp 63)) 22 "reader.go:98" #[Go.Edge.mk 3 Go.Ground.data] Option.none) rfl (fun K hK => ?_) (AllReadyH.cons (o := Go.Oper.mk (Option.some 68) (Go.Op.buildSlice 22 1 #[(0, Go.Operand.tmp 67)]) 22 "reader.go:98" #[Go.Edge.mk 7 Go.Ground.data] Option.none) rfl (fun K hK => ?_) AllReadyH.nil))
  · go_simp
    refine hK.out _ _ ?_ (fun hHeld => ?_)
    · exact hS _ ((Below.refl g w).drew)
    clear hK K
    try simp only [Act.put, List.setIfInBounds_toArray, List.set_cons_zero, List.set_cons_succ]
    refine wpAnyH_ready (rs := [8]) (by kernel_rfl) (by simp) (AllReadyH.cons (o := Go.Oper.mk (Option.some 68) (Go.Op.buildSlice 22 1 #[(0, Go.Operand.tmp 67)]) 22 "reader.go:98" #[Go.Edge.mk 7 Go.Ground.data] Option.none) rfl (fun K hK => ?_) AllReadyH.nil)
    go_simp
    refine hK.out _ _ ?_ (fun hHeld => ?_)
    · exact hS _ ((Below.refl g w).drew.alloc (Nat.le_of_lt h.blk.lt) _)
    clear hK K
    try simp only [Act.put, List.setIfInBounds_toArray, List.set_cons_zero, List.set_cons_succ]
    have hb1 : Below g w _ := ((Below.refl g w).drew.alloc (Nat.le_of_lt h.blk.lt) (.cells #[.string (bs s)] 9))
    have h1 := h.drew.alloc (.cells #[.string (bs s)] 9)
    refine wpAnyH_ready (rs := [9]) (by kernel_rfl) (by simp) (AllReadyH.cons (o := Go.Oper.mk (Option.some 69) (Go.Op.call (Go.Call.mk (Go.Callee.builtin Go.Builtin.append) #[Go.Operand.tmp 64, Go.Operand.tmp 68] #[22, 22])) 22 "reader.go:98" #[Go.Edge.mk 4 Go.Ground.data, Go.Edge.mk 8 Go.Ground.data] Option.none) rfl (fun K hK => ?_) AllReadyH.nil)
    refine step_append_r rfl _ _ 22 rfl (g + 1) 9 i0 _ 16 Tryz.underlying22 hi0 hz0 hz1 hz2 rfl (by decide) _ _ _ rfl h1.r1 [_] s ⟨rfl, hsl⟩ (fun u hu => by (simp at hu; subst hu; rfl)) _ rfl (blk_cells (Blk.new _ _ _ _ rfl)) hl (by omega) (by simp; have := h.blk.lt; omega) ?_
    intro u wn hnew hold hf
    obtain ⟨A9, c9, rfl, _⟩ := hnew.reads2
    have hb2 : Below g w wn := hf.keeps (Nat.le_succ g) (Nat.le_of_lt h1.blk.lt) hb1
    refine hK.out _ _ ?_ (fun hHeld => ?_)
    · exact hS _ (hb2)
    clear hK K
    try simp only [Act.put, List.setIfInBounds_toArray, List.set_cons_zero, List.set_cons_succ]
    refine wpAnyH_take (i := 10) (oi := Go.Oper.mk (Option.some 70) (Go.Op.nilCheck (Go.Operand.tmp 60)) 0 "reader.go:98" #[Go.Edge.mk 0 Go.Ground.data, Go.Edge.mk 0 Go.Ground.phase, Go.Edge.mk 1 Go.Ground.phase, Go.Edge.mk 2 Go.Ground.phase, Go.Edge.mk 3 Go.Ground.phase, Go.Edge.mk 4 Go.Ground.phase, Go.Edge.mk 5 Go.Ground.phase, Go.Edge.mk 6 Go.Ground.phase, Go.Edge.mk 7 Go.Ground.phase, Go.Edge.mk 8 Go.Ground.phase, Go.Edge.mk 9 Go.Ground.phase] Option.none) (v := ?_) rfl (by kernel_rfl) (by kernel_rfl) (by kernel_rfl) (fun _ _ _ h => h) (Or.inl ⟨by rfl, ?_⟩) (by assumption) ?_
    rotate_left
    · intro W hSw; (try dsimp only at hSw); go_simp; (first | done | with_reducible rfl)
    try simp only [Act.put, List.setIfInBounds_toArray, List.set_cons_zero, List.set_cons_succ]
    refine wpAnyH_take (i := 11) (oi := Go.Oper.mk (Option.some 71) (Go.Op.fieldAddr 28 (Go.Operand.tmp 70) 1) 0 "reader.go:98" #[Go.Edge.mk 10 Go.Ground.data, Go.Edge.mk 0 Go.Ground.phase, Go.Edge.mk 1 Go.Ground.phase, Go.Edge.mk 2 Go.Ground.phase, Go.Edge.mk 3 Go.Ground.phase, Go.Edge.mk 4 Go.Ground.phase, Go.Edge.mk 5 Go.Ground.phase, Go.Edge.mk 6 Go.Ground.phase, Go.Edge.mk 7 Go.Ground.phase, Go.Edge.mk 8 Go.Ground.phase, Go.Edge.mk 9 Go.Ground.phase] Option.none) (v := ?_) rfl (by kernel_rfl) (by kernel_rfl) (by kernel_rfl) (fun _ _ _ h => h) (Or.inl ⟨by rfl, ?_⟩) (by assumption) ?_
    rotate_left
    · intro W hSw; (try dsimp only at hSw); go_simp; (first | done | with_reducible rfl)
    try simp only [Act.put, List.setIfInBounds_toArray, List.set_cons_zero, List.set_cons_succ]
    refine wpAnyH_ready (rs := [12]) (by kernel_rfl) (by simp) (AllReadyH.cons (o := Go.Oper.mk Option.none (Go.Op.store 22 (Go.Operand.tmp 71) (Go.Operand.tmp 69)) 0 "reader.go:98" #[Go.Edge.mk 11 Go.Ground.data, Go.Edge.mk 9 Go.Ground.data, Go.Edge.mk 9 Go.Ground.chain, Go.Edge.mk 0 Go.Ground.phase, Go.Edge.mk 1 Go.Ground.phase, Go.Edge.mk 2 Go.Ground.phase, Go.Edge.mk 3 Go.Ground.phase, Go.Edge.mk 4 Go.Ground.phase, Go.Edge.mk 5 Go.Ground.phase, Go.Edge.mk 6 Go.Ground.phase, Go.Edge.mk 7 Go.Ground.phase, Go.Edge.mk 8 Go.Ground.phase, Go.Edge.mk 9 Go.Ground.phase] Option.none) rfl (fun K hK => ?_) AllReadyH.nil)
    have hz := (h1.put1 hf hnew)
    rw [List.length_append, List.length_singleton] at hz
    have hcl := (hf.blk h1.blk (by decide)).cell 1
    have hfr := (hf.blk h1.blk (by decide)).free 1
    go_simp
    refine hK.out _ _ ?_ (fun hHeld => ?_)
    · exact hS _ (hb2.setCell (p := ⟨g, 1, none⟩) (Nat.le_refl g) _)
    clear hK K
    try simp only [Act.put, List.setIfInBounds_toArray, List.set_cons_zero, List.set_cons_succ]
    refine wpAnyH_done (by kernel_rfl) ?_ _
    go_wp2_with fail
    (try simp only [Exit.inBlock, Exit.then])
    refine bodyPost_end (results_none rfl _ _ _) rfl ?_
    exact ⟨rfl, ⟨_, _, _, _, _, hz⟩, hb2.setCell (p := ⟨g, 1, none⟩) (Nat.le_refl g) _⟩
  · go_simp
    refine hK.out _ _ ?_ (fun hHeld => ?_)
    · exact hS _ ((Below.refl g w).drew.alloc (Nat.le_of_lt h.blk.lt) _)
    clear hK K
    try simp only [Act.put, List.setIfInBounds_toArray, List.set_cons_zero, List.set_cons_succ]
    have hb1 : Below g w _ := ((Below.refl g w).drew.alloc (Nat.le_of_lt h.blk.lt) (.cells #[.string (bs s)] 9))
    have h1 := h.drew.alloc (.cells #[.string (bs s)] 9)
    have x1' : (w.alloc (.cells #[.string (bs s)] 9)).cell? ⟨g, 1, none⟩ = some v1 := (h.alloc _).x1
    refine wpAnyH_ready (rs := [4]) (by kernel_rfl) (by simp) (AllReadyH.cons (o := Go.Oper.mk (Option.some 64) (Go.Op.load 22 (Go.Operand.tmp 63)) 22 "reader.go:98" #[Go.Edge.mk 3 Go.Ground.data] Option.none) rfl (fun K hK => ?_) AllReadyH.nil)
    go_simp
    refine hK.out _ _ ?_ (fun hHeld => ?_)
    · exact hS _ (hb1)
    clear hK K
    try simp only [Act.put, List.setIfInBounds_toArray, List.set_cons_zero, List.set_cons_succ]
    refine wpAnyH_ready (rs := [9]) (by kernel_rfl) (by simp) (AllReadyH.cons (o := Go.Oper.mk (Option.some 69) (Go.Op.call (Go.Call.mk (Go.Callee.builtin Go.Builtin.append) #[Go.Operand.tmp 64, Go.Operand.tmp 68] #[22, 22])) 22 "reader.go:98" #[Go.Edge.mk 4 Go.Ground.data, Go.Edge.mk 8 Go.Ground.data] Option.none) rfl (fun K hK => ?_) AllReadyH.nil)
    refine step_append_r rfl _ _ 22 rfl (g + 1) 9 i0 _ 16 Tryz.underlying22 hi0 hz0 hz1 hz2 rfl (by decide) _ _ _ rfl h1.r1 [_] s ⟨rfl, hsl⟩ (fun u hu => by (simp at hu; subst hu; rfl)) _ rfl (blk_cells (Blk.new _ _ _ _ rfl)) hl (by omega) (by simp; have := h.blk.lt; omega) ?_
    intro u wn hnew hold hf
    obtain ⟨A9, c9, rfl, _⟩ := hnew.reads2
    have hb2 : Below g w wn := hf.keeps (Nat.le_succ g) (Nat.le_of_lt h1.blk.lt) hb1
    refine hK.out _ _ ?_ (fun hHeld => ?_)
    · exact hS _ (hb2)
    clear hK K
    try simp only [Act.put, List.setIfInBounds_toArray, List.set_cons_zero, List.set_cons_succ]
    refine wpAnyH_take (i := 10) (oi := Go.Oper.mk (Option.some 70) (Go.Op.nilCheck (Go.Operand.tmp 60)) 0 "reader.go:98" #[Go.Edge.mk 0 Go.Ground.data, Go.Edge.mk 0 Go.Ground.phase, Go.Edge.mk 1 Go.Ground.phase, Go.Edge.mk 2 Go.Ground.phase, Go.Edge.mk 3 Go.Ground.phase, Go.Edge.mk 4 Go.Ground.phase, Go.Edge.mk 5 Go.Ground.phase, Go.Edge.mk 6 Go.Ground.phase, Go.Edge.mk 7 Go.Ground.phase, Go.Edge.mk 8 Go.Ground.phase, Go.Edge.mk 9 Go.Ground.phase] Option.none) (v := ?_) rfl (by kernel_rfl) (by kernel_rfl) (by kernel_rfl) (fun _ _ _ h => h) (Or.inl ⟨by rfl, ?_⟩) (by assumption) ?_
    rotate_left
    · intro W hSw; (try dsimp only at hSw); go_simp; (first | done | with_reducible rfl)
    try simp only [Act.put, List.setIfInBounds_toArray, List.set_cons_zero, List.set_cons_succ]
    refine wpAnyH_take (i := 11) (oi := Go.Oper.mk (Option.some 71) (Go.Op.fieldAddr 28 (Go.Operand.tmp 70) 1) 0 "reader.go:98" #[Go.Edge.mk 10 Go.Ground.data, Go.Edge.mk 0 Go.Ground.phase, Go.Edge.mk 1 Go.Ground.phase, Go.Edge.mk 2 Go.Ground.phase, Go.Edge.mk 3 Go.Ground.phase, Go.Edge.mk 4 Go.Ground.phase, Go.Edge.mk 5 Go.Ground.phase, Go.Edge.mk 6 Go.Ground.phase, Go.Edge.mk 7 Go.Ground.phase, Go.Edge.mk 8 Go.Ground.phase, Go.Edge.mk 9 Go.Ground.phase] Option.none) (v := ?_) rfl (by kernel_rfl) (by kernel_rfl) (by kernel_rfl) (fun _ _ _ h => h) (Or.inl ⟨by rfl, ?_⟩) (by assumption) ?_
    rotate_left
    · intro W hSw; (try dsimp only at hSw); go_simp; (first | done | with_reducible rfl)
    try simp only [Act.put, List.setIfInBounds_toArray, List.set_cons_zero, List.set_cons_succ]
    refine wpAnyH_ready (rs := [12]) (by kernel_rfl) (by simp) (AllReadyH.cons (o := Go.Oper.mk Option.none (Go.Op.store 22 (Go.Operand.tmp 71) (Go.Operand.tmp 69)) 0 "reader.go:98" #[Go.Edge.mk 11 Go.Ground.data, Go.Edge.mk 9 Go.Ground.data, Go.Edge.mk 9 Go.Ground.chain, Go.Edge.mk 0 Go.Ground.phase, Go.Edge.mk 1 Go.Ground.phase, Go.Edge.mk 2 Go.Ground.phase, Go.Edge.mk 3 Go.Ground.phase, Go.Edge.mk 4 Go.Ground.phase, Go.Edge.mk 5 Go.Ground.phase, Go.Edge.mk 6 Go.Ground.phase, Go.Edge.mk 7 Go.Ground.phase, Go.Edge.mk 8 Go.Ground.phase, Go.Edge.mk 9 Go.Ground.phase] Option.none) rfl (fun K hK => ?_) AllReadyH.nil)
    have hz := (h1.put1 hf hnew)
    rw [List.length_append, List.length_singleton] at hz
    have hcl := (hf.blk h1.blk (by decide)).cell 1
    have hfr := (hf.blk h1.blk (by decide)).free 1
    go_simp
    refine hK.out _ _ ?_ (fun hHeld => ?_)
    · exact hS _ (hb2.setCell (p := ⟨g, 1, none⟩) (Nat.le_refl g) _)
    clear hK K
    try simp only [Act.put, List.setIfInBounds_toArray, List.set_cons_zero, List.set_cons_succ]
    refine wpAnyH_done (by kernel_rfl) ?_ _
    go_wp2_with fail
    (try simp only [Exit.inBlock, Exit.then])
    refine bodyPost_end (results_none rfl _ _ _) rfl ?_
    exact ⟨rfl, ⟨_, _, _, _, _, hz⟩, hb2.setCell (p := ⟨g, 1, none⟩) (Nat.le_refl g) _⟩
set_option maxRecDepth 100000 in
set_option maxHeartbeats 4000000 in
theorem add_balise (w : World) (g : Nat) (l : Lay) (p : Int) (v1 v2 v3 v4 v5 : Value) (h : RW w g l p v1 v2 v3 v4 v5) (va : Value) (gi : Nat) (q0 q1 q2 : Int) (hq0 : I64n q0) (hq1 : I64n q1) (hq2 : I64n q2) (hi : Blk w gi 3 #[.int .i64 q0, .int .i64 q1, .int .i64 q2]) (hgi : gi ≠ g) (hl : l.bls.length ≤ 100000) :
    Calls Tryz.prog 52 #[.pointer (some ⟨g, 0, none⟩), .string (bs baliseW), va, .slice (some ⟨gi, 0, none⟩) 3 3] w fun e w' => e = .returned (.tuple #[]) ∧ RWS w' g { l with bls := l.bls ++ [⟨q0, q1, q2⟩] } p ∧ Below g w w' := by
  obtain ⟨i0, hi0, hz0, hz1, hz2⟩ := info_parts infoB
  have x1 := h.x5
  have hS : ∀ w', Blk w' gi 3 #[.int .i64 q0, .int .i64 q1, .int .i64 q2] → Below g w w' → (fun w' => w'.cell? ⟨gi, 0, none⟩ = some (.int .i64 q0) ∧ w'.cell? ⟨gi, 1, none⟩ = some (.int .i64 q1) ∧ w'.cell? ⟨gi, 2, none⟩ = some (.int .i64 q2) ∧ Below g w w') w' := fun w' hj hq => ⟨hj.cell 0, hj.cell 1, hj.cell 2, hq⟩
  go_enter Tryz.func52, Tryz.ntmps52
  go_wp2_with fail
  refine wp_region_held_drew (S := (fun w' => w'.cell? ⟨gi, 0, none⟩ = some (.int .i64 q0) ∧ w'.cell? ⟨gi, 1, none⟩ = some (.int .i64 q1) ∧ w'.cell? ⟨gi, 2, none⟩ = some (.int .i64 q2) ∧ Below g w w')) (by kernel_rfl) (hS _ (hi.drew) ((Below.refl g w).drew)) (fun hHeld => ?_)
  refine wpAnyH_take (i := 0) (oi := Go.Oper.mk (Option.some 125) (Go.Op.move (Go.Operand.tmp 8)) 114 "reader.go:104" #[] Option.none) (v := ?_) rfl (by kernel_rfl) (by kernel_rfl) (by kernel_rfl) (fun _ _ _ h => h) (Or.inl ⟨by rfl, ?_⟩) (by assumption) ?_
  rotate_left
  · intro W hSw; (try dsimp only at hSw); go_simp; (first | done | with_reducible rfl)
  try simp only [Act.put, List.setIfInBounds_toArray, List.set_cons_zero, List.set_cons_succ]
  refine wpAnyH_take (i := 1) (oi := Go.Oper.mk (Option.some 126) (Go.Op.move (Go.Operand.tmp 8)) 114 "reader.go:104" #[] Option.none) (v := ?_) rfl (by kernel_rfl) (by kernel_rfl) (by kernel_rfl) (fun _ _ _ h => h) (Or.inl ⟨by rfl, ?_⟩) (by assumption) ?_
  rotate_left
  · intro W hSw; (try dsimp only at hSw); go_simp; (first | done | with_reducible rfl)
  try simp only [Act.put, List.setIfInBounds_toArray, List.set_cons_zero, List.set_cons_succ]
  refine wpAnyH_take (i := 2) (oi := Go.Oper.mk (Option.some 127) (Go.Op.nilCheck (Go.Operand.tmp 126)) 0 "reader.go:104" #[Go.Edge.mk 1 Go.Ground.data] Option.none) (v := ?_) rfl (by kernel_rfl) (by kernel_rfl) (by kernel_rfl) (fun _ _ _ h => h) (Or.inl ⟨by rfl, ?_⟩) (by assumption) ?_
  rotate_left
  · intro W hSw; (try dsimp only at hSw); go_simp; (first | done | with_reducible rfl)
  try simp only [Act.put, List.setIfInBounds_toArray, List.set_cons_zero, List.set_cons_succ]
  refine wpAnyH_take (i := 3) (oi := Go.Oper.mk (Option.some 128) (Go.Op.fieldAddr 28 (Go.Operand.tmp 127) 5) 0 "reader.go:104" #[Go.Edge.mk 2 Go.Ground.data] Option.none) (v := ?_) rfl (by kernel_rfl) (by kernel_rfl) (by kernel_rfl) (fun _ _ _ h => h) (Or.inl ⟨by rfl, ?_⟩) (by assumption) ?_
  rotate_left
  · intro W hSw; (try dsimp only at hSw); go_simp; (first | done | with_reducible rfl)
  try simp only [Act.put, List.setIfInBounds_toArray, List.set_cons_zero, List.set_cons_succ]
  refine wpAnyH_take (i := 5) (oi := Go.Oper.mk (Option.some 130) (Go.Op.move (Go.Operand.tmp 3)) 68 "reader.go:104" #[] Option.none) (v := ?_) rfl (by kernel_rfl) (by kernel_rfl) (by kernel_rfl) (fun _ _ _ h => h) (Or.inl ⟨by rfl, ?_⟩) (by assumption) ?_
  rotate_left
  · intro W hSw; (try dsimp only at hSw); go_simp; (first | done | with_reducible rfl)
  try simp only [Act.put, List.setIfInBounds_toArray, List.set_cons_zero, List.set_cons_succ]
  refine wpAnyH_take (i := 6) (oi := Go.Oper.mk (Option.some 131) (Go.Op.indexAddr 68 (Go.Operand.tmp 130) (Go.Operand.const (Go.Value.int Go.IntKind.i64 0))) 0 "reader.go:104" #[Go.Edge.mk 5 Go.Ground.data] Option.none) (v := ?_) rfl (by kernel_rfl) (by kernel_rfl) (by kernel_rfl) (fun _ _ _ h => h) (Or.inl ⟨by rfl, ?_⟩) (by assumption) ?_
  rotate_left
  · intro W hSw; (try dsimp only at hSw); go_simp; (first | done | with_reducible rfl)
  try simp only [Act.put, List.setIfInBounds_toArray, List.set_cons_zero, List.set_cons_succ]
  refine wpAnyH_take (i := 7) (oi := Go.Oper.mk (Option.some 132) (Go.Op.load 3 (Go.Operand.tmp 131)) 3 "reader.go:104" #[Go.Edge.mk 6 Go.Ground.data] Option.none) (v := ?_) rfl (by kernel_rfl) (by kernel_rfl) (by kernel_rfl) (fun _ _ _ h => h) (Or.inl ⟨by rfl, ?_⟩) (by assumption) ?_
  rotate_left
  · intro W hSw; (try dsimp only at hSw); go_simp; (first | done | with_reducible rfl)
  try simp only [Act.put, List.setIfInBounds_toArray, List.set_cons_zero, List.set_cons_succ]
  refine wpAnyH_take (i := 8) (oi := Go.Oper.mk (Option.some 133) (Go.Op.move (Go.Operand.tmp 3)) 68 "reader.go:104" #[] Option.none) (v := ?_) rfl (by kernel_rfl) (by kernel_rfl) (by kernel_rfl) (fun _ _ _ h => h) (Or.inl ⟨by rfl, ?_⟩) (by assumption) ?_
  rotate_left
  · intro W hSw; (try dsimp only at hSw); go_simp; (first | done | with_reducible rfl)
  try simp only [Act.put, List.setIfInBounds_toArray, List.set_cons_zero, List.set_cons_succ]
  refine wpAnyH_take (i := 9) (oi := Go.Oper.mk (Option.some 134) (Go.Op.indexAddr 68 (Go.Operand.tmp 133) (Go.Operand.const (Go.Value.int Go.IntKind.i64 1))) 0 "reader.go:104" #[Go.Edge.mk 8 Go.Ground.data] Option.none) (v := ?_) rfl (by kernel_rfl) (by kernel_rfl) (by kernel_rfl) (fun _ _ _ h => h) (Or.inl ⟨by rfl, ?_⟩) (by assumption) ?_
  rotate_left
  · intro W hSw; (try dsimp only at hSw); go_simp; (first | done | with_reducible rfl)
  try simp only [Act.put, List.setIfInBounds_toArray, List.set_cons_zero, List.set_cons_succ]
  refine wpAnyH_take (i := 10) (oi := Go.Oper.mk (Option.some 135) (Go.Op.load 3 (Go.Operand.tmp 134)) 3 "reader.go:104" #[Go.Edge.mk 9 Go.Ground.data] Option.none) (v := ?_) rfl (by kernel_rfl) (by kernel_rfl) (by kernel_rfl) (fun _ _ _ h => h) (Or.inl ⟨by rfl, ?_⟩) (by assumption) ?_
  rotate_left
  · intro W hSw; (try dsimp only at hSw); go_simp; (first | done | with_reducible rfl)
  try simp only [Act.put, List.setIfInBounds_toArray, List.set_cons_zero, List.set_cons_succ]
  refine wpAnyH_take (i := 11) (oi := Go.Oper.mk (Option.some 136) (Go.Op.move (Go.Operand.tmp 3)) 68 "reader.go:104" #[] Option.none) (v := ?_) rfl (by kernel_rfl) (by kernel_rfl) (by kernel_rfl) (fun _ _ _ h => h) (Or.inl ⟨by rfl, ?_⟩) (by assumption) ?_
  rotate_left
  · intro W hSw; (try dsimp only at hSw); go_simp; (first | done | with_reducible rfl)
  try simp only [Act.put, List.setIfInBounds_toArray, List.set_cons_zero, List.set_cons_succ]
  refine wpAnyH_take (i := 12) (oi := Go.Oper.mk (Option.some 137) (Go.Op.indexAddr 68 (Go.Operand.tmp 136) (Go.Operand.const (Go.Value.int Go.IntKind.i64 2))) 0 "reader.go:104" #[Go.Edge.mk 11 Go.Ground.data] Option.none) (v := ?_) rfl (by kernel_rfl) (by kernel_rfl) (by kernel_rfl) (fun _ _ _ h => h) (Or.inl ⟨by rfl, ?_⟩) (by assumption) ?_
  rotate_left
  · intro W hSw; (try dsimp only at hSw); go_simp; (first | done | with_reducible rfl)
  try simp only [Act.put, List.setIfInBounds_toArray, List.set_cons_zero, List.set_cons_succ]
  refine wpAnyH_take (i := 13) (oi := Go.Oper.mk (Option.some 138) (Go.Op.load 3 (Go.Operand.tmp 137)) 3 "reader.go:104" #[Go.Edge.mk 12 Go.Ground.data] Option.none) (v := ?_) rfl (by kernel_rfl) (by kernel_rfl) (by kernel_rfl) (fun _ _ _ h => h) (Or.inl ⟨by rfl, ?_⟩) (by assumption) ?_
  rotate_left
  · intro W hSw; (try dsimp only at hSw); go_simp; (first | done | with_reducible rfl)
  try simp only [Act.put, List.setIfInBounds_toArray, List.set_cons_zero, List.set_cons_succ]
  refine wpAnyH_take (i := 14) (oi := Go.Oper.mk (Option.some 139) (Go.Op.build 51 #[(0, Go.Operand.tmp 132), (1, Go.Operand.tmp 135), (2, Go.Operand.tmp 138)]) 51 "reader.go:104" #[Go.Edge.mk 7 Go.Ground.data, Go.Edge.mk 10 Go.Ground.data, Go.Edge.mk 13 Go.Ground.data] Option.none) (v := ?_) rfl (by kernel_rfl) (by kernel_rfl) (by kernel_rfl) (fun _ _ _ h => h) (Or.inl ⟨by rfl, ?_⟩) (by assumption) ?_
  rotate_left
  · intro W hSw; (try dsimp only at hSw); go_simp; (first | done | with_reducible rfl)
  try simp only [Act.put, List.setIfInBounds_toArray, List.set_cons_zero, List.set_cons_succ]
  refine wpAnyH_ready (rs := [4, 15]) (by kernel_rfl) (by simp) (AllReadyH.cons (o := Go.Oper.mk (Option.some 129) (Go.Op.load 26 (Go.Operand.tmp 128)) 26 "reader.go:104" #[Go.Edge.mk 3 Go.Ground.data] Option.none) rfl (fun K hK => ?_) (AllReadyH.cons (o := Go.Oper.mk (Option.some 140) (Go.Op.buildSlice 26 1 #[(0, Go.Operand.tmp 139)]) 26 "reader.go:104" #[Go.Edge.mk 14 Go.Ground.data] Option.none) rfl (fun K hK => ?_) AllReadyH.nil))
  · go_simp
    refine hK.out _ _ ?_ (fun hHeld => ?_)
    · exact hS _ (hi.drew) ((Below.refl g w).drew)
    clear hK K
    try simp only [Act.put, List.setIfInBounds_toArray, List.set_cons_zero, List.set_cons_succ]
    refine wpAnyH_ready (rs := [15]) (by kernel_rfl) (by simp) (AllReadyH.cons (o := Go.Oper.mk (Option.some 140) (Go.Op.buildSlice 26 1 #[(0, Go.Operand.tmp 139)]) 26 "reader.go:104" #[Go.Edge.mk 14 Go.Ground.data] Option.none) rfl (fun K hK => ?_) AllReadyH.nil)
    go_simp
    refine hK.out _ _ ?_ (fun hHeld => ?_)
    · exact hS _ (hi.drew.alloc _) ((Below.refl g w).drew.alloc (Nat.le_of_lt h.blk.lt) _)
    clear hK K
    try simp only [Act.put, List.setIfInBounds_toArray, List.set_cons_zero, List.set_cons_succ]
    have hb1 : Below g w _ := ((Below.refl g w).drew.alloc (Nat.le_of_lt h.blk.lt) (.cells #[.int .i64 q0, .int .i64 q1, .int .i64 q2] 51))
    have h1 := h.drew.alloc (.cells #[.int .i64 q0, .int .i64 q1, .int .i64 q2] 51)
    have hi1 := hi.drew.alloc (.cells #[.int .i64 q0, .int .i64 q1, .int .i64 q2] 51)
    refine wpAnyH_ready (rs := [16]) (by kernel_rfl) (by simp) (AllReadyH.cons (o := Go.Oper.mk (Option.some 141) (Go.Op.call (Go.Call.mk (Go.Callee.builtin Go.Builtin.append) #[Go.Operand.tmp 129, Go.Operand.tmp 140] #[26, 26])) 26 "reader.go:104" #[Go.Edge.mk 4 Go.Ground.data, Go.Edge.mk 15 Go.Ground.data] Option.none) rfl (fun K hK => ?_) AllReadyH.nil)
    refine step_append_r rfl _ _ 26 rfl (g + 1) 51 i0 _ 24 Tryz.underlying26 hi0 hz0 hz1 hz2 rfl (by decide) _ _ _ rfl h1.r5 _ ⟨q0, q1, q2⟩ ⟨rfl, ⟨hq0, hq1, hq2⟩⟩ (fun u hu => by (simp [blsV] at hu; rcases hu with rfl | rfl | rfl <;> rfl)) _ rfl (blk_cells (Blk.new _ _ _ _ rfl)) hl (by omega) (by simp; have := h.blk.lt; omega) ?_
    intro u wn hnew hold hf
    obtain ⟨A9, c9, rfl, _⟩ := hnew.reads2
    have hb2 : Below g w wn := hf.keeps (Nat.le_succ g) (Nat.le_of_lt h1.blk.lt) hb1
    have hi2 := hf.blk hi1 (by decide)
    refine hK.out _ _ ?_ (fun hHeld => ?_)
    · exact hS _ (hi2) (hb2)
    clear hK K
    try simp only [Act.put, List.setIfInBounds_toArray, List.set_cons_zero, List.set_cons_succ]
    refine wpAnyH_take (i := 17) (oi := Go.Oper.mk (Option.some 142) (Go.Op.nilCheck (Go.Operand.tmp 125)) 0 "reader.go:104" #[Go.Edge.mk 0 Go.Ground.data, Go.Edge.mk 0 Go.Ground.phase, Go.Edge.mk 1 Go.Ground.phase, Go.Edge.mk 2 Go.Ground.phase, Go.Edge.mk 3 Go.Ground.phase, Go.Edge.mk 4 Go.Ground.phase, Go.Edge.mk 5 Go.Ground.phase, Go.Edge.mk 6 Go.Ground.phase, Go.Edge.mk 7 Go.Ground.phase, Go.Edge.mk 8 Go.Ground.phase, Go.Edge.mk 9 Go.Ground.phase, Go.Edge.mk 10 Go.Ground.phase, Go.Edge.mk 11 Go.Ground.phase, Go.Edge.mk 12 Go.Ground.phase, Go.Edge.mk 13 Go.Ground.phase, Go.Edge.mk 14 Go.Ground.phase, Go.Edge.mk 15 Go.Ground.phase, Go.Edge.mk 16 Go.Ground.phase] Option.none) (v := ?_) rfl (by kernel_rfl) (by kernel_rfl) (by kernel_rfl) (fun _ _ _ h => h) (Or.inl ⟨by rfl, ?_⟩) (by assumption) ?_
    rotate_left
    · intro W hSw; (try dsimp only at hSw); go_simp; (first | done | with_reducible rfl)
    try simp only [Act.put, List.setIfInBounds_toArray, List.set_cons_zero, List.set_cons_succ]
    refine wpAnyH_take (i := 18) (oi := Go.Oper.mk (Option.some 143) (Go.Op.fieldAddr 28 (Go.Operand.tmp 142) 5) 0 "reader.go:104" #[Go.Edge.mk 17 Go.Ground.data, Go.Edge.mk 0 Go.Ground.phase, Go.Edge.mk 1 Go.Ground.phase, Go.Edge.mk 2 Go.Ground.phase, Go.Edge.mk 3 Go.Ground.phase, Go.Edge.mk 4 Go.Ground.phase, Go.Edge.mk 5 Go.Ground.phase, Go.Edge.mk 6 Go.Ground.phase, Go.Edge.mk 7 Go.Ground.phase, Go.Edge.mk 8 Go.Ground.phase, Go.Edge.mk 9 Go.Ground.phase, Go.Edge.mk 10 Go.Ground.phase, Go.Edge.mk 11 Go.Ground.phase, Go.Edge.mk 12 Go.Ground.phase, Go.Edge.mk 13 Go.Ground.phase, Go.Edge.mk 14 Go.Ground.phase, Go.Edge.mk 15 Go.Ground.phase, Go.Edge.mk 16 Go.Ground.phase] Option.none) (v := ?_) rfl (by kernel_rfl) (by kernel_rfl) (by kernel_rfl) (fun _ _ _ h => h) (Or.inl ⟨by rfl, ?_⟩) (by assumption) ?_
    rotate_left
    · intro W hSw; (try dsimp only at hSw); go_simp; (first | done | with_reducible rfl)
    try simp only [Act.put, List.setIfInBounds_toArray, List.set_cons_zero, List.set_cons_succ]
    refine wpAnyH_ready (rs := [19]) (by kernel_rfl) (by simp) (AllReadyH.cons (o := Go.Oper.mk Option.none (Go.Op.store 26 (Go.Operand.tmp 143) (Go.Operand.tmp 141)) 0 "reader.go:104" #[Go.Edge.mk 18 Go.Ground.data, Go.Edge.mk 16 Go.Ground.data, Go.Edge.mk 16 Go.Ground.chain, Go.Edge.mk 0 Go.Ground.phase, Go.Edge.mk 1 Go.Ground.phase, Go.Edge.mk 2 Go.Ground.phase, Go.Edge.mk 3 Go.Ground.phase, Go.Edge.mk 4 Go.Ground.phase, Go.Edge.mk 5 Go.Ground.phase, Go.Edge.mk 6 Go.Ground.phase, Go.Edge.mk 7 Go.Ground.phase, Go.Edge.mk 8 Go.Ground.phase, Go.Edge.mk 9 Go.Ground.phase, Go.Edge.mk 10 Go.Ground.phase, Go.Edge.mk 11 Go.Ground.phase, Go.Edge.mk 12 Go.Ground.phase, Go.Edge.mk 13 Go.Ground.phase, Go.Edge.mk 14 Go.Ground.phase, Go.Edge.mk 15 Go.Ground.phase, Go.Edge.mk 16 Go.Ground.phase] Option.none) rfl (fun K hK => ?_) AllReadyH.nil)
    have hz := (h1.put5 hf hnew)
    rw [List.length_append, List.length_singleton] at hz
    have hcl := (hf.blk h1.blk (by decide)).cell 5
    have hfr := (hf.blk h1.blk (by decide)).free 5
    go_simp
    refine hK.out _ _ ?_ (fun hHeld => ?_)
    · exact hS _ (hi2.far (p := ⟨g, 5, none⟩) hgi _) (hb2.setCell (p := ⟨g, 5, none⟩) (Nat.le_refl g) _)
    clear hK K
    try simp only [Act.put, List.setIfInBounds_toArray, List.set_cons_zero, List.set_cons_succ]
    refine wpAnyH_done (by kernel_rfl) ?_ _
    go_wp2_with fail
    (try simp only [Exit.inBlock, Exit.then])
    refine bodyPost_end (results_none rfl _ _ _) rfl ?_
    exact ⟨rfl, ⟨_, _, _, _, _, hz⟩, hb2.setCell (p := ⟨g, 5, none⟩) (Nat.le_refl g) _⟩
  · go_simp
    refine hK.out _ _ ?_ (fun hHeld => ?_)
    · exact hS _ (hi.drew.alloc _) ((Below.refl g w).drew.alloc (Nat.le_of_lt h.blk.lt) _)
    clear hK K
    try simp only [Act.put, List.setIfInBounds_toArray, List.set_cons_zero, List.set_cons_succ]
    have hb1 : Below g w _ := ((Below.refl g w).drew.alloc (Nat.le_of_lt h.blk.lt) (.cells #[.int .i64 q0, .int .i64 q1, .int .i64 q2] 51))
    have h1 := h.drew.alloc (.cells #[.int .i64 q0, .int .i64 q1, .int .i64 q2] 51)
    have hi1 := hi.drew.alloc (.cells #[.int .i64 q0, .int .i64 q1, .int .i64 q2] 51)
    have x1' : (w.alloc (.cells #[.int .i64 q0, .int .i64 q1, .int .i64 q2] 51)).cell? ⟨g, 5, none⟩ = some v5 := (h.alloc _).x5
    refine wpAnyH_ready (rs := [4]) (by kernel_rfl) (by simp) (AllReadyH.cons (o := Go.Oper.mk (Option.some 129) (Go.Op.load 26 (Go.Operand.tmp 128)) 26 "reader.go:104" #[Go.Edge.mk 3 Go.Ground.data] Option.none) rfl (fun K hK => ?_) AllReadyH.nil)
    go_simp
    refine hK.out _ _ ?_ (fun hHeld => ?_)
    · exact hS _ (hi1) (hb1)
    clear hK K
    try simp only [Act.put, List.setIfInBounds_toArray, List.set_cons_zero, List.set_cons_succ]
    refine wpAnyH_ready (rs := [16]) (by kernel_rfl) (by simp) (AllReadyH.cons (o := Go.Oper.mk (Option.some 141) (Go.Op.call (Go.Call.mk (Go.Callee.builtin Go.Builtin.append) #[Go.Operand.tmp 129, Go.Operand.tmp 140] #[26, 26])) 26 "reader.go:104" #[Go.Edge.mk 4 Go.Ground.data, Go.Edge.mk 15 Go.Ground.data] Option.none) rfl (fun K hK => ?_) AllReadyH.nil)
    refine step_append_r rfl _ _ 26 rfl (g + 1) 51 i0 _ 24 Tryz.underlying26 hi0 hz0 hz1 hz2 rfl (by decide) _ _ _ rfl h1.r5 _ ⟨q0, q1, q2⟩ ⟨rfl, ⟨hq0, hq1, hq2⟩⟩ (fun u hu => by (simp [blsV] at hu; rcases hu with rfl | rfl | rfl <;> rfl)) _ rfl (blk_cells (Blk.new _ _ _ _ rfl)) hl (by omega) (by simp; have := h.blk.lt; omega) ?_
    intro u wn hnew hold hf
    obtain ⟨A9, c9, rfl, _⟩ := hnew.reads2
    have hb2 : Below g w wn := hf.keeps (Nat.le_succ g) (Nat.le_of_lt h1.blk.lt) hb1
    have hi2 := hf.blk hi1 (by decide)
    refine hK.out _ _ ?_ (fun hHeld => ?_)
    · exact hS _ (hi2) (hb2)
    clear hK K
    try simp only [Act.put, List.setIfInBounds_toArray, List.set_cons_zero, List.set_cons_succ]
    refine wpAnyH_take (i := 17) (oi := Go.Oper.mk (Option.some 142) (Go.Op.nilCheck (Go.Operand.tmp 125)) 0 "reader.go:104" #[Go.Edge.mk 0 Go.Ground.data, Go.Edge.mk 0 Go.Ground.phase, Go.Edge.mk 1 Go.Ground.phase, Go.Edge.mk 2 Go.Ground.phase, Go.Edge.mk 3 Go.Ground.phase, Go.Edge.mk 4 Go.Ground.phase, Go.Edge.mk 5 Go.Ground.phase, Go.Edge.mk 6 Go.Ground.phase, Go.Edge.mk 7 Go.Ground.phase, Go.Edge.mk 8 Go.Ground.phase, Go.Edge.mk 9 Go.Ground.phase, Go.Edge.mk 10 Go.Ground.phase, Go.Edge.mk 11 Go.Ground.phase, Go.Edge.mk 12 Go.Ground.phase, Go.Edge.mk 13 Go.Ground.phase, Go.Edge.mk 14 Go.Ground.phase, Go.Edge.mk 15 Go.Ground.phase, Go.Edge.mk 16 Go.Ground.phase] Option.none) (v := ?_) rfl (by kernel_rfl) (by kernel_rfl) (by kernel_rfl) (fun _ _ _ h => h) (Or.inl ⟨by rfl, ?_⟩) (by assumption) ?_
    rotate_left
    · intro W hSw; (try dsimp only at hSw); go_simp; (first | done | with_reducible rfl)
    try simp only [Act.put, List.setIfInBounds_toArray, List.set_cons_zero, List.set_cons_succ]
    refine wpAnyH_take (i := 18) (oi := Go.Oper.mk (Option.some 143) (Go.Op.fieldAddr 28 (Go.Operand.tmp 142) 5) 0 "reader.go:104" #[Go.Edge.mk 17 Go.Ground.data, Go.Edge.mk 0 Go.Ground.phase, Go.Edge.mk 1 Go.Ground.phase, Go.Edge.mk 2 Go.Ground.phase, Go.Edge.mk 3 Go.Ground.phase, Go.Edge.mk 4 Go.Ground.phase, Go.Edge.mk 5 Go.Ground.phase, Go.Edge.mk 6 Go.Ground.phase, Go.Edge.mk 7 Go.Ground.phase, Go.Edge.mk 8 Go.Ground.phase, Go.Edge.mk 9 Go.Ground.phase, Go.Edge.mk 10 Go.Ground.phase, Go.Edge.mk 11 Go.Ground.phase, Go.Edge.mk 12 Go.Ground.phase, Go.Edge.mk 13 Go.Ground.phase, Go.Edge.mk 14 Go.Ground.phase, Go.Edge.mk 15 Go.Ground.phase, Go.Edge.mk 16 Go.Ground.phase] Option.none) (v := ?_) rfl (by kernel_rfl) (by kernel_rfl) (by kernel_rfl) (fun _ _ _ h => h) (Or.inl ⟨by rfl, ?_⟩) (by assumption) ?_
    rotate_left
    · intro W hSw; (try dsimp only at hSw); go_simp; (first | done | with_reducible rfl)
    try simp only [Act.put, List.setIfInBounds_toArray, List.set_cons_zero, List.set_cons_succ]
    refine wpAnyH_ready (rs := [19]) (by kernel_rfl) (by simp) (AllReadyH.cons (o := Go.Oper.mk Option.none (Go.Op.store 26 (Go.Operand.tmp 143) (Go.Operand.tmp 141)) 0 "reader.go:104" #[Go.Edge.mk 18 Go.Ground.data, Go.Edge.mk 16 Go.Ground.data, Go.Edge.mk 16 Go.Ground.chain, Go.Edge.mk 0 Go.Ground.phase, Go.Edge.mk 1 Go.Ground.phase, Go.Edge.mk 2 Go.Ground.phase, Go.Edge.mk 3 Go.Ground.phase, Go.Edge.mk 4 Go.Ground.phase, Go.Edge.mk 5 Go.Ground.phase, Go.Edge.mk 6 Go.Ground.phase, Go.Edge.mk 7 Go.Ground.phase, Go.Edge.mk 8 Go.Ground.phase, Go.Edge.mk 9 Go.Ground.phase, Go.Edge.mk 10 Go.Ground.phase, Go.Edge.mk 11 Go.Ground.phase, Go.Edge.mk 12 Go.Ground.phase, Go.Edge.mk 13 Go.Ground.phase, Go.Edge.mk 14 Go.Ground.phase, Go.Edge.mk 15 Go.Ground.phase, Go.Edge.mk 16 Go.Ground.phase] Option.none) rfl (fun K hK => ?_) AllReadyH.nil)
    have hz := (h1.put5 hf hnew)
    rw [List.length_append, List.length_singleton] at hz
    have hcl := (hf.blk h1.blk (by decide)).cell 5
    have hfr := (hf.blk h1.blk (by decide)).free 5
    go_simp
    refine hK.out _ _ ?_ (fun hHeld => ?_)
    · exact hS _ (hi2.far (p := ⟨g, 5, none⟩) hgi _) (hb2.setCell (p := ⟨g, 5, none⟩) (Nat.le_refl g) _)
    clear hK K
    try simp only [Act.put, List.setIfInBounds_toArray, List.set_cons_zero, List.set_cons_succ]
    refine wpAnyH_done (by kernel_rfl) ?_ _
    go_wp2_with fail
    (try simp only [Exit.inBlock, Exit.then])
    refine bodyPost_end (results_none rfl _ _ _) rfl ?_
    exact ⟨rfl, ⟨_, _, _, _, _, hz⟩, hb2.setCell (p := ⟨g, 5, none⟩) (Nat.le_refl g) _⟩
set_option maxRecDepth 100000 in
set_option maxHeartbeats 4000000 in
theorem add_joint (w : World) (g : Nat) (l : Lay) (p : Int) (v1 v2 v3 v4 v5 : Value) (h : RW w g l p v1 v2 v3 v4 v5) (va : Value) (gi : Nat) (q0 q1 q2 q3 : Int) (hq0 : I64n q0) (hq1 : I64n q1) (hq2 : I64n q2) (hq3 : I64n q3) (hi : Blk w gi 3 #[.int .i64 q0, .int .i64 q1, .int .i64 q2, .int .i64 q3]) (hgi : gi ≠ g) (hl : l.jts.length ≤ 100000) :
    Calls Tryz.prog 52 #[.pointer (some ⟨g, 0, none⟩), .string (bs jointW), va, .slice (some ⟨gi, 0, none⟩) 4 4] w fun e w' => e = .returned (.tuple #[]) ∧ RWS w' g { l with jts := l.jts ++ [⟨⟨q0, q1⟩, ⟨q2, q3⟩⟩] } p ∧ Below g w w' := by
  obtain ⟨i0, hi0, hz0, hz1, hz2⟩ := info_parts infoJ
  have x1 := h.x3
  have hS : ∀ w', Blk w' gi 3 #[.int .i64 q0, .int .i64 q1, .int .i64 q2, .int .i64 q3] → Below g w w' → (fun w' => w'.cell? ⟨gi, 0, none⟩ = some (.int .i64 q0) ∧ w'.cell? ⟨gi, 1, none⟩ = some (.int .i64 q1) ∧ w'.cell? ⟨gi, 2, none⟩ = some (.int .i64 q2) ∧ w'.cell? ⟨gi, 3, none⟩ = some (.int .i64 q3) ∧ Below g w w') w' := fun w' hj hq => ⟨hj.cell 0, hj.cell 1, hj.cell 2, hj.cell 3, hq⟩
  go_enter Tryz.func52, Tryz.ntmps52
  go_wp2_with fail
  refine wp_region_held_drew (S := (fun w' => w'.cell? ⟨gi, 0, none⟩ = some (.int .i64 q0) ∧ w'.cell? ⟨gi, 1, none⟩ = some (.int .i64 q1) ∧ w'.cell? ⟨gi, 2, none⟩ = some (.int .i64 q2) ∧ w'.cell? ⟨gi, 3, none⟩ = some (.int .i64 q3) ∧ Below g w w')) (by kernel_rfl) (hS _ (hi.drew) ((Below.refl g w).drew)) (fun hHeld => ?_)
  refine wpAnyH_take (i := 0) (oi := Go.Oper.mk (Option.some 74) (Go.Op.move (Go.Operand.tmp 8)) 114 "reader.go:100" #[] Option.none) (v := ?_) rfl (by kernel_rfl) (by kernel_rfl) (by kernel_rfl) (fun _ _ _ h => h) (Or.inl ⟨by rfl, ?_⟩) (by assumption) ?_
  rotate_left
  · intro W hSw; (try dsimp only at hSw); go_simp; (first | done | with_reducible rfl)
  try simp only [Act.put, List.setIfInBounds_toArray, List.set_cons_zero, List.set_cons_succ]
  refine wpAnyH_take (i := 1) (oi := Go.Oper.mk (Option.some 75) (Go.Op.move (Go.Operand.tmp 8)) 114 "reader.go:100" #[] Option.none) (v := ?_) rfl (by kernel_rfl) (by kernel_rfl) (by kernel_rfl) (fun _ _ _ h => h) (Or.inl ⟨by rfl, ?_⟩) (by assumption) ?_
  rotate_left
  · intro W hSw; (try dsimp only at hSw); go_simp; (first | done | with_reducible rfl)
  try simp only [Act.put, List.setIfInBounds_toArray, List.set_cons_zero, List.set_cons_succ]
  refine wpAnyH_take (i := 2) (oi := Go.Oper.mk (Option.some 76) (Go.Op.nilCheck (Go.Operand.tmp 75)) 0 "reader.go:100" #[Go.Edge.mk 1 Go.Ground.data] Option.none) (v := ?_) rfl (by kernel_rfl) (by kernel_rfl) (by kernel_rfl) (fun _ _ _ h => h) (Or.inl ⟨by rfl, ?_⟩) (by assumption) ?_
  rotate_left
  · intro W hSw; (try dsimp only at hSw); go_simp; (first | done | with_reducible rfl)
  try simp only [Act.put, List.setIfInBounds_toArray, List.set_cons_zero, List.set_cons_succ]
  refine wpAnyH_take (i := 3) (oi := Go.Oper.mk (Option.some 77) (Go.Op.fieldAddr 28 (Go.Operand.tmp 76) 3) 0 "reader.go:100" #[Go.Edge.mk 2 Go.Ground.data] Option.none) (v := ?_) rfl (by kernel_rfl) (by kernel_rfl) (by kernel_rfl) (fun _ _ _ h => h) (Or.inl ⟨by rfl, ?_⟩) (by assumption) ?_
  rotate_left
  · intro W hSw; (try dsimp only at hSw); go_simp; (first | done | with_reducible rfl)
  try simp only [Act.put, List.setIfInBounds_toArray, List.set_cons_zero, List.set_cons_succ]
  refine wpAnyH_take (i := 5) (oi := Go.Oper.mk (Option.some 79) (Go.Op.move (Go.Operand.tmp 3)) 68 "reader.go:100" #[] Option.none) (v := ?_) rfl (by kernel_rfl) (by kernel_rfl) (by kernel_rfl) (fun _ _ _ h => h) (Or.inl ⟨by rfl, ?_⟩) (by assumption) ?_
  rotate_left
  · intro W hSw; (try dsimp only at hSw); go_simp; (first | done | with_reducible rfl)
  try simp only [Act.put, List.setIfInBounds_toArray, List.set_cons_zero, List.set_cons_succ]
  refine wpAnyH_take (i := 6) (oi := Go.Oper.mk (Option.some 80) (Go.Op.indexAddr 68 (Go.Operand.tmp 79) (Go.Operand.const (Go.Value.int Go.IntKind.i64 0))) 0 "reader.go:100" #[Go.Edge.mk 5 Go.Ground.data] Option.none) (v := ?_) rfl (by kernel_rfl) (by kernel_rfl) (by kernel_rfl) (fun _ _ _ h => h) (Or.inl ⟨by rfl, ?_⟩) (by assumption) ?_
  rotate_left
  · intro W hSw; (try dsimp only at hSw); go_simp; (first | done | with_reducible rfl)
  try simp only [Act.put, List.setIfInBounds_toArray, List.set_cons_zero, List.set_cons_succ]
  refine wpAnyH_take (i := 7) (oi := Go.Oper.mk (Option.some 81) (Go.Op.load 3 (Go.Operand.tmp 80)) 3 "reader.go:100" #[Go.Edge.mk 6 Go.Ground.data] Option.none) (v := ?_) rfl (by kernel_rfl) (by kernel_rfl) (by kernel_rfl) (fun _ _ _ h => h) (Or.inl ⟨by rfl, ?_⟩) (by assumption) ?_
  rotate_left
  · intro W hSw; (try dsimp only at hSw); go_simp; (first | done | with_reducible rfl)
  try simp only [Act.put, List.setIfInBounds_toArray, List.set_cons_zero, List.set_cons_succ]
  refine wpAnyH_take (i := 8) (oi := Go.Oper.mk (Option.some 82) (Go.Op.move (Go.Operand.tmp 3)) 68 "reader.go:100" #[] Option.none) (v := ?_) rfl (by kernel_rfl) (by kernel_rfl) (by kernel_rfl) (fun _ _ _ h => h) (Or.inl ⟨by rfl, ?_⟩) (by assumption) ?_
  rotate_left
  · intro W hSw; (try dsimp only at hSw); go_simp; (first | done | with_reducible rfl)
  try simp only [Act.put, List.setIfInBounds_toArray, List.set_cons_zero, List.set_cons_succ]
  refine wpAnyH_take (i := 9) (oi := Go.Oper.mk (Option.some 83) (Go.Op.indexAddr 68 (Go.Operand.tmp 82) (Go.Operand.const (Go.Value.int Go.IntKind.i64 1))) 0 "reader.go:100" #[Go.Edge.mk 8 Go.Ground.data] Option.none) (v := ?_) rfl (by kernel_rfl) (by kernel_rfl) (by kernel_rfl) (fun _ _ _ h => h) (Or.inl ⟨by rfl, ?_⟩) (by assumption) ?_
  rotate_left
  · intro W hSw; (try dsimp only at hSw); go_simp; (first | done | with_reducible rfl)
  try simp only [Act.put, List.setIfInBounds_toArray, List.set_cons_zero, List.set_cons_succ]
  refine wpAnyH_take (i := 10) (oi := Go.Oper.mk (Option.some 84) (Go.Op.load 3 (Go.Operand.tmp 83)) 3 "reader.go:100" #[Go.Edge.mk 9 Go.Ground.data] Option.none) (v := ?_) rfl (by kernel_rfl) (by kernel_rfl) (by kernel_rfl) (fun _ _ _ h => h) (Or.inl ⟨by rfl, ?_⟩) (by assumption) ?_
  rotate_left
  · intro W hSw; (try dsimp only at hSw); go_simp; (first | done | with_reducible rfl)
  try simp only [Act.put, List.setIfInBounds_toArray, List.set_cons_zero, List.set_cons_succ]
  refine wpAnyH_take (i := 11) (oi := Go.Oper.mk (Option.some 85) (Go.Op.build 37 #[(0, Go.Operand.tmp 81), (1, Go.Operand.tmp 84)]) 37 "reader.go:100" #[Go.Edge.mk 7 Go.Ground.data, Go.Edge.mk 10 Go.Ground.data] Option.none) (v := ?_) rfl (by kernel_rfl) (by kernel_rfl) (by kernel_rfl) (fun _ _ _ h => h) (Or.inl ⟨by rfl, ?_⟩) (by assumption) ?_
  rotate_left
  · intro W hSw; (try dsimp only at hSw); go_simp; (first | done | with_reducible rfl)
  try simp only [Act.put, List.setIfInBounds_toArray, List.set_cons_zero, List.set_cons_succ]
  refine wpAnyH_take (i := 12) (oi := Go.Oper.mk (Option.some 86) (Go.Op.move (Go.Operand.tmp 3)) 68 "reader.go:100" #[] Option.none) (v := ?_) rfl (by kernel_rfl) (by kernel_rfl) (by kernel_rfl) (fun _ _ _ h => h) (Or.inl ⟨by rfl, ?_⟩) (by assumption) ?_
  rotate_left
  · intro W hSw; (try dsimp only at hSw); go_simp; (first | done | with_reducible rfl)
  try simp only [Act.put, List.setIfInBounds_toArray, List.set_cons_zero, List.set_cons_succ]
  refine wpAnyH_take (i := 13) (oi := Go.Oper.mk (Option.some 87) (Go.Op.indexAddr 68 (Go.Operand.tmp 86) (Go.Operand.const (Go.Value.int Go.IntKind.i64 2))) 0 "reader.go:100" #[Go.Edge.mk 12 Go.Ground.data] Option.none) (v := ?_) rfl (by kernel_rfl) (by kernel_rfl) (by kernel_rfl) (fun _ _ _ h => h) (Or.inl ⟨by rfl, ?_⟩) (by assumption) ?_
  rotate_left
  · intro W hSw; (try dsimp only at hSw); go_simp; (first | done | with_reducible rfl)
  try simp only [Act.put, List.setIfInBounds_toArray, List.set_cons_zero, List.set_cons_succ]
  refine wpAnyH_take (i := 14) (oi := Go.Oper.mk (Option.some 88) (Go.Op.load 3 (Go.Operand.tmp 87)) 3 "reader.go:100" #[Go.Edge.mk 13 Go.Ground.data] Option.none) (v := ?_) rfl (by kernel_rfl) (by kernel_rfl) (by kernel_rfl) (fun _ _ _ h => h) (Or.inl ⟨by rfl, ?_⟩) (by assumption) ?_
  rotate_left
  · intro W hSw; (try dsimp only at hSw); go_simp; (first | done | with_reducible rfl)
  try simp only [Act.put, List.setIfInBounds_toArray, List.set_cons_zero, List.set_cons_succ]
  refine wpAnyH_take (i := 15) (oi := Go.Oper.mk (Option.some 89) (Go.Op.move (Go.Operand.tmp 3)) 68 "reader.go:100" #[] Option.none) (v := ?_) rfl (by kernel_rfl) (by kernel_rfl) (by kernel_rfl) (fun _ _ _ h => h) (Or.inl ⟨by rfl, ?_⟩) (by assumption) ?_
  rotate_left
  · intro W hSw; (try dsimp only at hSw); go_simp; (first | done | with_reducible rfl)
  try simp only [Act.put, List.setIfInBounds_toArray, List.set_cons_zero, List.set_cons_succ]
  refine wpAnyH_take (i := 16) (oi := Go.Oper.mk (Option.some 90) (Go.Op.indexAddr 68 (Go.Operand.tmp 89) (Go.Operand.const (Go.Value.int Go.IntKind.i64 3))) 0 "reader.go:100" #[Go.Edge.mk 15 Go.Ground.data] Option.none) (v := ?_) rfl (by kernel_rfl) (by kernel_rfl) (by kernel_rfl) (fun _ _ _ h => h) (Or.inl ⟨by rfl, ?_⟩) (by assumption) ?_
  rotate_left
  · intro W hSw; (try dsimp only at hSw); go_simp; (first | done | with_reducible rfl)
  try simp only [Act.put, List.setIfInBounds_toArray, List.set_cons_zero, List.set_cons_succ]
  refine wpAnyH_take (i := 17) (oi := Go.Oper.mk (Option.some 91) (Go.Op.load 3 (Go.Operand.tmp 90)) 3 "reader.go:100" #[Go.Edge.mk 16 Go.Ground.data] Option.none) (v := ?_) rfl (by kernel_rfl) (by kernel_rfl) (by kernel_rfl) (fun _ _ _ h => h) (Or.inl ⟨by rfl, ?_⟩) (by assumption) ?_
  rotate_left
  · intro W hSw; (try dsimp only at hSw); go_simp; (first | done | with_reducible rfl)
  try simp only [Act.put, List.setIfInBounds_toArray, List.set_cons_zero, List.set_cons_succ]
  refine wpAnyH_take (i := 18) (oi := Go.Oper.mk (Option.some 92) (Go.Op.build 37 #[(0, Go.Operand.tmp 88), (1, Go.Operand.tmp 91)]) 37 "reader.go:100" #[Go.Edge.mk 14 Go.Ground.data, Go.Edge.mk 17 Go.Ground.data] Option.none) (v := ?_) rfl (by kernel_rfl) (by kernel_rfl) (by kernel_rfl) (fun _ _ _ h => h) (Or.inl ⟨by rfl, ?_⟩) (by assumption) ?_
  rotate_left
  · intro W hSw; (try dsimp only at hSw); go_simp; (first | done | with_reducible rfl)
  try simp only [Act.put, List.setIfInBounds_toArray, List.set_cons_zero, List.set_cons_succ]
  refine wpAnyH_take (i := 19) (oi := Go.Oper.mk (Option.some 93) (Go.Op.build 39 #[(0, Go.Operand.tmp 85), (1, Go.Operand.tmp 92)]) 39 "reader.go:100" #[Go.Edge.mk 11 Go.Ground.data, Go.Edge.mk 18 Go.Ground.data] Option.none) (v := ?_) rfl (by kernel_rfl) (by kernel_rfl) (by kernel_rfl) (fun _ _ _ h => h) (Or.inl ⟨by rfl, ?_⟩) (by assumption) ?_
  rotate_left
  · intro W hSw; (try dsimp only at hSw); go_simp; (first | done | with_reducible rfl)
  try simp only [Act.put, List.setIfInBounds_toArray, List.set_cons_zero, List.set_cons_succ]
  refine wpAnyH_ready (rs := [4, 20]) (by kernel_rfl) (by simp) (AllReadyH.cons (o := Go.Oper.mk (Option.some 78) (Go.Op.load 24 (Go.Operand.tmp 77)) 24 "reader.go:100" #[Go.Edge.mk 3 Go.Ground.data] Option.none) rfl (fun K hK => ?_) (AllReadyH.cons (o := Go.Oper.mk (Option.some 94) (Go.Op.buildSlice 24 1 #[(0, Go.Operand.tmp 93)]) 24 "reader.go:100" #[Go.Edge.mk 19 Go.Ground.data] Option.none) rfl (fun K hK => ?_) AllReadyH.nil))
  · go_simp
    refine hK.out _ _ ?_ (fun hHeld => ?_)
    · exact hS _ (hi.drew) ((Below.refl g w).drew)
    clear hK K
    try simp only [Act.put, List.setIfInBounds_toArray, List.set_cons_zero, List.set_cons_succ]
    refine wpAnyH_ready (rs := [20]) (by kernel_rfl) (by simp) (AllReadyH.cons (o := Go.Oper.mk (Option.some 94) (Go.Op.buildSlice 24 1 #[(0, Go.Operand.tmp 93)]) 24 "reader.go:100" #[Go.Edge.mk 19 Go.Ground.data] Option.none) rfl (fun K hK => ?_) AllReadyH.nil)
    go_simp
    refine hK.out _ _ ?_ (fun hHeld => ?_)
    · exact hS _ (hi.drew.alloc _) ((Below.refl g w).drew.alloc (Nat.le_of_lt h.blk.lt) _)
    clear hK K
    try simp only [Act.put, List.setIfInBounds_toArray, List.set_cons_zero, List.set_cons_succ]
    have hb1 : Below g w _ := ((Below.refl g w).drew.alloc (Nat.le_of_lt h.blk.lt) (.cells #[.int .i64 q0, .int .i64 q1, .int .i64 q2, .int .i64 q3] 39))
    have h1 := h.drew.alloc (.cells #[.int .i64 q0, .int .i64 q1, .int .i64 q2, .int .i64 q3] 39)
    have hi1 := hi.drew.alloc (.cells #[.int .i64 q0, .int .i64 q1, .int .i64 q2, .int .i64 q3] 39)
    refine wpAnyH_ready (rs := [21]) (by kernel_rfl) (by simp) (AllReadyH.cons (o := Go.Oper.mk (Option.some 95) (Go.Op.call (Go.Call.mk (Go.Callee.builtin Go.Builtin.append) #[Go.Operand.tmp 78, Go.Operand.tmp 94] #[24, 24])) 24 "reader.go:100" #[Go.Edge.mk 4 Go.Ground.data, Go.Edge.mk 20 Go.Ground.data] Option.none) rfl (fun K hK => ?_) AllReadyH.nil)
    refine step_append_r rfl _ _ 24 rfl (g + 1) 39 i0 _ 32 Tryz.underlying24 hi0 hz0 hz1 hz2 rfl (by decide) _ _ _ rfl h1.r3 _ ⟨⟨q0, q1⟩, ⟨q2, q3⟩⟩ ⟨rfl, ⟨⟨hq0, hq1⟩, hq2, hq3⟩⟩ (fun u hu => by (simp [jntV] at hu; rcases hu with rfl | rfl | rfl | rfl <;> rfl)) _ rfl (blk_cells (Blk.new _ _ _ _ rfl)) hl (by omega) (by simp; have := h.blk.lt; omega) ?_
    intro u wn hnew hold hf
    obtain ⟨A9, c9, rfl, _⟩ := hnew.reads2
    have hb2 : Below g w wn := hf.keeps (Nat.le_succ g) (Nat.le_of_lt h1.blk.lt) hb1
    have hi2 := hf.blk hi1 (by decide)
    refine hK.out _ _ ?_ (fun hHeld => ?_)
    · exact hS _ (hi2) (hb2)
    clear hK K
    try simp only [Act.put, List.setIfInBounds_toArray, List.set_cons_zero, List.set_cons_succ]
    refine wpAnyH_take (i := 22) (oi := Go.Oper.mk (Option.some 96) (Go.Op.nilCheck (Go.Operand.tmp 74)) 0 "reader.go:100" #[Go.Edge.mk 0 Go.Ground.data, Go.Edge.mk 0 Go.Ground.phase, Go.Edge.mk 1 Go.Ground.phase, Go.Edge.mk 2 Go.Ground.phase, Go.Edge.mk 3 Go.Ground.phase, Go.Edge.mk 4 Go.Ground.phase, Go.Edge.mk 5 Go.Ground.phase, Go.Edge.mk 6 Go.Ground.phase, Go.Edge.mk 7 Go.Ground.phase, Go.Edge.mk 8 Go.Ground.phase, Go.Edge.mk 9 Go.Ground.phase, Go.Edge.mk 10 Go.Ground.phase, Go.Edge.mk 11 Go.Ground.phase, Go.Edge.mk 12 Go.Ground.phase, Go.Edge.mk 13 Go.Ground.phase, Go.Edge.mk 14 Go.Ground.phase, Go.Edge.mk 15 Go.Ground.phase, Go.Edge.mk 16 Go.Ground.phase, Go.Edge.mk 17 Go.Ground.phase, Go.Edge.mk 18 Go.Ground.phase, Go.Edge.mk 19 Go.Ground.phase, Go.Edge.mk 20 Go.Ground.phase, Go.Edge.mk 21 Go.Ground.phase] Option.none) (v := ?_) rfl (by kernel_rfl) (by kernel_rfl) (by kernel_rfl) (fun _ _ _ h => h) (Or.inl ⟨by rfl, ?_⟩) (by assumption) ?_
    rotate_left
    · intro W hSw; (try dsimp only at hSw); go_simp; (first | done | with_reducible rfl)
    try simp only [Act.put, List.setIfInBounds_toArray, List.set_cons_zero, List.set_cons_succ]
    refine wpAnyH_take (i := 23) (oi := Go.Oper.mk (Option.some 97) (Go.Op.fieldAddr 28 (Go.Operand.tmp 96) 3) 0 "reader.go:100" #[Go.Edge.mk 22 Go.Ground.data, Go.Edge.mk 0 Go.Ground.phase, Go.Edge.mk 1 Go.Ground.phase, Go.Edge.mk 2 Go.Ground.phase, Go.Edge.mk 3 Go.Ground.phase, Go.Edge.mk 4 Go.Ground.phase, Go.Edge.mk 5 Go.Ground.phase, Go.Edge.mk 6 Go.Ground.phase, Go.Edge.mk 7 Go.Ground.phase, Go.Edge.mk 8 Go.Ground.phase, Go.Edge.mk 9 Go.Ground.phase, Go.Edge.mk 10 Go.Ground.phase, Go.Edge.mk 11 Go.Ground.phase, Go.Edge.mk 12 Go.Ground.phase, Go.Edge.mk 13 Go.Ground.phase, Go.Edge.mk 14 Go.Ground.phase, Go.Edge.mk 15 Go.Ground.phase, Go.Edge.mk 16 Go.Ground.phase, Go.Edge.mk 17 Go.Ground.phase, Go.Edge.mk 18 Go.Ground.phase, Go.Edge.mk 19 Go.Ground.phase, Go.Edge.mk 20 Go.Ground.phase, Go.Edge.mk 21 Go.Ground.phase] Option.none) (v := ?_) rfl (by kernel_rfl) (by kernel_rfl) (by kernel_rfl) (fun _ _ _ h => h) (Or.inl ⟨by rfl, ?_⟩) (by assumption) ?_
    rotate_left
    · intro W hSw; (try dsimp only at hSw); go_simp; (first | done | with_reducible rfl)
    try simp only [Act.put, List.setIfInBounds_toArray, List.set_cons_zero, List.set_cons_succ]
    refine wpAnyH_ready (rs := [24]) (by kernel_rfl) (by simp) (AllReadyH.cons (o := Go.Oper.mk Option.none (Go.Op.store 24 (Go.Operand.tmp 97) (Go.Operand.tmp 95)) 0 "reader.go:100" #[Go.Edge.mk 23 Go.Ground.data, Go.Edge.mk 21 Go.Ground.data, Go.Edge.mk 21 Go.Ground.chain, Go.Edge.mk 0 Go.Ground.phase, Go.Edge.mk 1 Go.Ground.phase, Go.Edge.mk 2 Go.Ground.phase, Go.Edge.mk 3 Go.Ground.phase, Go.Edge.mk 4 Go.Ground.phase, Go.Edge.mk 5 Go.Ground.phase, Go.Edge.mk 6 Go.Ground.phase, Go.Edge.mk 7 Go.Ground.phase, Go.Edge.mk 8 Go.Ground.phase, Go.Edge.mk 9 Go.Ground.phase, Go.Edge.mk 10 Go.Ground.phase, Go.Edge.mk 11 Go.Ground.phase, Go.Edge.mk 12 Go.Ground.phase, Go.Edge.mk 13 Go.Ground.phase, Go.Edge.mk 14 Go.Ground.phase, Go.Edge.mk 15 Go.Ground.phase, Go.Edge.mk 16 Go.Ground.phase, Go.Edge.mk 17 Go.Ground.phase, Go.Edge.mk 18 Go.Ground.phase, Go.Edge.mk 19 Go.Ground.phase, Go.Edge.mk 20 Go.Ground.phase, Go.Edge.mk 21 Go.Ground.phase] Option.none) rfl (fun K hK => ?_) AllReadyH.nil)
    have hz := (h1.put3 hf hnew)
    rw [List.length_append, List.length_singleton] at hz
    have hcl := (hf.blk h1.blk (by decide)).cell 3
    have hfr := (hf.blk h1.blk (by decide)).free 3
    go_simp
    refine hK.out _ _ ?_ (fun hHeld => ?_)
    · exact hS _ (hi2.far (p := ⟨g, 3, none⟩) hgi _) (hb2.setCell (p := ⟨g, 3, none⟩) (Nat.le_refl g) _)
    clear hK K
    try simp only [Act.put, List.setIfInBounds_toArray, List.set_cons_zero, List.set_cons_succ]
    refine wpAnyH_done (by kernel_rfl) ?_ _
    go_wp2_with fail
    (try simp only [Exit.inBlock, Exit.then])
    refine bodyPost_end (results_none rfl _ _ _) rfl ?_
    exact ⟨rfl, ⟨_, _, _, _, _, hz⟩, hb2.setCell (p := ⟨g, 3, none⟩) (Nat.le_refl g) _⟩
  · go_simp
    refine hK.out _ _ ?_ (fun hHeld => ?_)
    · exact hS _ (hi.drew.alloc _) ((Below.refl g w).drew.alloc (Nat.le_of_lt h.blk.lt) _)
    clear hK K
    try simp only [Act.put, List.setIfInBounds_toArray, List.set_cons_zero, List.set_cons_succ]
    have hb1 : Below g w _ := ((Below.refl g w).drew.alloc (Nat.le_of_lt h.blk.lt) (.cells #[.int .i64 q0, .int .i64 q1, .int .i64 q2, .int .i64 q3] 39))
    have h1 := h.drew.alloc (.cells #[.int .i64 q0, .int .i64 q1, .int .i64 q2, .int .i64 q3] 39)
    have hi1 := hi.drew.alloc (.cells #[.int .i64 q0, .int .i64 q1, .int .i64 q2, .int .i64 q3] 39)
    have x1' : (w.alloc (.cells #[.int .i64 q0, .int .i64 q1, .int .i64 q2, .int .i64 q3] 39)).cell? ⟨g, 3, none⟩ = some v3 := (h.alloc _).x3
    refine wpAnyH_ready (rs := [4]) (by kernel_rfl) (by simp) (AllReadyH.cons (o := Go.Oper.mk (Option.some 78) (Go.Op.load 24 (Go.Operand.tmp 77)) 24 "reader.go:100" #[Go.Edge.mk 3 Go.Ground.data] Option.none) rfl (fun K hK => ?_) AllReadyH.nil)
    go_simp
    refine hK.out _ _ ?_ (fun hHeld => ?_)
    · exact hS _ (hi1) (hb1)
    clear hK K
    try simp only [Act.put, List.setIfInBounds_toArray, List.set_cons_zero, List.set_cons_succ]
    refine wpAnyH_ready (rs := [21]) (by kernel_rfl) (by simp) (AllReadyH.cons (o := Go.Oper.mk (Option.some 95) (Go.Op.call (Go.Call.mk (Go.Callee.builtin Go.Builtin.append) #[Go.Operand.tmp 78, Go.Operand.tmp 94] #[24, 24])) 24 "reader.go:100" #[Go.Edge.mk 4 Go.Ground.data, Go.Edge.mk 20 Go.Ground.data] Option.none) rfl (fun K hK => ?_) AllReadyH.nil)
    refine step_append_r rfl _ _ 24 rfl (g + 1) 39 i0 _ 32 Tryz.underlying24 hi0 hz0 hz1 hz2 rfl (by decide) _ _ _ rfl h1.r3 _ ⟨⟨q0, q1⟩, ⟨q2, q3⟩⟩ ⟨rfl, ⟨⟨hq0, hq1⟩, hq2, hq3⟩⟩ (fun u hu => by (simp [jntV] at hu; rcases hu with rfl | rfl | rfl | rfl <;> rfl)) _ rfl (blk_cells (Blk.new _ _ _ _ rfl)) hl (by omega) (by simp; have := h.blk.lt; omega) ?_
    intro u wn hnew hold hf
    obtain ⟨A9, c9, rfl, _⟩ := hnew.reads2
    have hb2 : Below g w wn := hf.keeps (Nat.le_succ g) (Nat.le_of_lt h1.blk.lt) hb1
    have hi2 := hf.blk hi1 (by decide)
    refine hK.out _ _ ?_ (fun hHeld => ?_)
    · exact hS _ (hi2) (hb2)
    clear hK K
    try simp only [Act.put, List.setIfInBounds_toArray, List.set_cons_zero, List.set_cons_succ]
    refine wpAnyH_take (i := 22) (oi := Go.Oper.mk (Option.some 96) (Go.Op.nilCheck (Go.Operand.tmp 74)) 0 "reader.go:100" #[Go.Edge.mk 0 Go.Ground.data, Go.Edge.mk 0 Go.Ground.phase, Go.Edge.mk 1 Go.Ground.phase, Go.Edge.mk 2 Go.Ground.phase, Go.Edge.mk 3 Go.Ground.phase, Go.Edge.mk 4 Go.Ground.phase, Go.Edge.mk 5 Go.Ground.phase, Go.Edge.mk 6 Go.Ground.phase, Go.Edge.mk 7 Go.Ground.phase, Go.Edge.mk 8 Go.Ground.phase, Go.Edge.mk 9 Go.Ground.phase, Go.Edge.mk 10 Go.Ground.phase, Go.Edge.mk 11 Go.Ground.phase, Go.Edge.mk 12 Go.Ground.phase, Go.Edge.mk 13 Go.Ground.phase, Go.Edge.mk 14 Go.Ground.phase, Go.Edge.mk 15 Go.Ground.phase, Go.Edge.mk 16 Go.Ground.phase, Go.Edge.mk 17 Go.Ground.phase, Go.Edge.mk 18 Go.Ground.phase, Go.Edge.mk 19 Go.Ground.phase, Go.Edge.mk 20 Go.Ground.phase, Go.Edge.mk 21 Go.Ground.phase] Option.none) (v := ?_) rfl (by kernel_rfl) (by kernel_rfl) (by kernel_rfl) (fun _ _ _ h => h) (Or.inl ⟨by rfl, ?_⟩) (by assumption) ?_
    rotate_left
    · intro W hSw; (try dsimp only at hSw); go_simp; (first | done | with_reducible rfl)
    try simp only [Act.put, List.setIfInBounds_toArray, List.set_cons_zero, List.set_cons_succ]
    refine wpAnyH_take (i := 23) (oi := Go.Oper.mk (Option.some 97) (Go.Op.fieldAddr 28 (Go.Operand.tmp 96) 3) 0 "reader.go:100" #[Go.Edge.mk 22 Go.Ground.data, Go.Edge.mk 0 Go.Ground.phase, Go.Edge.mk 1 Go.Ground.phase, Go.Edge.mk 2 Go.Ground.phase, Go.Edge.mk 3 Go.Ground.phase, Go.Edge.mk 4 Go.Ground.phase, Go.Edge.mk 5 Go.Ground.phase, Go.Edge.mk 6 Go.Ground.phase, Go.Edge.mk 7 Go.Ground.phase, Go.Edge.mk 8 Go.Ground.phase, Go.Edge.mk 9 Go.Ground.phase, Go.Edge.mk 10 Go.Ground.phase, Go.Edge.mk 11 Go.Ground.phase, Go.Edge.mk 12 Go.Ground.phase, Go.Edge.mk 13 Go.Ground.phase, Go.Edge.mk 14 Go.Ground.phase, Go.Edge.mk 15 Go.Ground.phase, Go.Edge.mk 16 Go.Ground.phase, Go.Edge.mk 17 Go.Ground.phase, Go.Edge.mk 18 Go.Ground.phase, Go.Edge.mk 19 Go.Ground.phase, Go.Edge.mk 20 Go.Ground.phase, Go.Edge.mk 21 Go.Ground.phase] Option.none) (v := ?_) rfl (by kernel_rfl) (by kernel_rfl) (by kernel_rfl) (fun _ _ _ h => h) (Or.inl ⟨by rfl, ?_⟩) (by assumption) ?_
    rotate_left
    · intro W hSw; (try dsimp only at hSw); go_simp; (first | done | with_reducible rfl)
    try simp only [Act.put, List.setIfInBounds_toArray, List.set_cons_zero, List.set_cons_succ]
    refine wpAnyH_ready (rs := [24]) (by kernel_rfl) (by simp) (AllReadyH.cons (o := Go.Oper.mk Option.none (Go.Op.store 24 (Go.Operand.tmp 97) (Go.Operand.tmp 95)) 0 "reader.go:100" #[Go.Edge.mk 23 Go.Ground.data, Go.Edge.mk 21 Go.Ground.data, Go.Edge.mk 21 Go.Ground.chain, Go.Edge.mk 0 Go.Ground.phase, Go.Edge.mk 1 Go.Ground.phase, Go.Edge.mk 2 Go.Ground.phase, Go.Edge.mk 3 Go.Ground.phase, Go.Edge.mk 4 Go.Ground.phase, Go.Edge.mk 5 Go.Ground.phase, Go.Edge.mk 6 Go.Ground.phase, Go.Edge.mk 7 Go.Ground.phase, Go.Edge.mk 8 Go.Ground.phase, Go.Edge.mk 9 Go.Ground.phase, Go.Edge.mk 10 Go.Ground.phase, Go.Edge.mk 11 Go.Ground.phase, Go.Edge.mk 12 Go.Ground.phase, Go.Edge.mk 13 Go.Ground.phase, Go.Edge.mk 14 Go.Ground.phase, Go.Edge.mk 15 Go.Ground.phase, Go.Edge.mk 16 Go.Ground.phase, Go.Edge.mk 17 Go.Ground.phase, Go.Edge.mk 18 Go.Ground.phase, Go.Edge.mk 19 Go.Ground.phase, Go.Edge.mk 20 Go.Ground.phase, Go.Edge.mk 21 Go.Ground.phase] Option.none) rfl (fun K hK => ?_) AllReadyH.nil)
    have hz := (h1.put3 hf hnew)
    rw [List.length_append, List.length_singleton] at hz
    have hcl := (hf.blk h1.blk (by decide)).cell 3
    have hfr := (hf.blk h1.blk (by decide)).free 3
    go_simp
    refine hK.out _ _ ?_ (fun hHeld => ?_)
    · exact hS _ (hi2.far (p := ⟨g, 3, none⟩) hgi _) (hb2.setCell (p := ⟨g, 3, none⟩) (Nat.le_refl g) _)
    clear hK K
    try simp only [Act.put, List.setIfInBounds_toArray, List.set_cons_zero, List.set_cons_succ]
    refine wpAnyH_done (by kernel_rfl) ?_ _
    go_wp2_with fail
    (try simp only [Exit.inBlock, Exit.then])
    refine bodyPost_end (results_none rfl _ _ _) rfl ?_
    exact ⟨rfl, ⟨_, _, _, _, _, hz⟩, hb2.setCell (p := ⟨g, 3, none⟩) (Nat.le_refl g) _⟩
set_option maxRecDepth 100000 in
set_option maxHeartbeats 4000000 in
theorem add_signal (w : World) (g : Nat) (l : Lay) (p : Int) (v1 v2 v3 v4 v5 : Value) (h : RW w g l p v1 v2 v3 v4 v5) (s : List UInt8) (b off n c : Nat) (hb : b < g) (hn : 0 < n) (y : w.cell? ⟨b, off, none⟩ = some (.string (bs s))) (hsl : s.length ≤ maxLen) (gi : Nat) (q0 q1 q2 q3 : Int) (hq0 : I64n q0) (hq1 : I64n q1) (hq2 : I64n q2) (hq3 : I64n q3) (hi : Blk w gi 3 #[.int .i64 q0, .int .i64 q1, .int .i64 q2, .int .i64 q3]) (hgi : gi ≠ g) (hl : l.sgs.length ≤ 100000) :
    Calls Tryz.prog 52 #[.pointer (some ⟨g, 0, none⟩), .string (bs signalW), .slice (some ⟨b, off, none⟩) n c, .slice (some ⟨gi, 0, none⟩) 4 4] w fun e w' => e = .returned (.tuple #[]) ∧ RWS w' g { l with sgs := l.sgs ++ [⟨s, ⟨q1, q2⟩, q3⟩] } p ∧ Below g w w' := by
  have hni : (0 : Int) < (n : Int) := by omega
  obtain ⟨i0, hi0, hz0, hz1, hz2⟩ := info_parts infoG
  have x1 := h.x4
  have hS : ∀ w', Blk w' gi 3 #[.int .i64 q0, .int .i64 q1, .int .i64 q2, .int .i64 q3] → Below g w w' → (fun w' => w'.cell? ⟨b, off, none⟩ = some (.string (bs s)) ∧ w'.cell? ⟨gi, 1, none⟩ = some (.int .i64 q1) ∧ w'.cell? ⟨gi, 2, none⟩ = some (.int .i64 q2) ∧ w'.cell? ⟨gi, 3, none⟩ = some (.int .i64 q3) ∧ Below g w w') w' := fun w' hj hq => ⟨(hq.cell (p := ⟨b, off, none⟩) hb).trans y, hj.cell 1, hj.cell 2, hj.cell 3, hq⟩
  go_enter Tryz.func52, Tryz.ntmps52
  go_wp2_with fail
  refine wp_region_held_drew (S := (fun w' => w'.cell? ⟨b, off, none⟩ = some (.string (bs s)) ∧ w'.cell? ⟨gi, 1, none⟩ = some (.int .i64 q1) ∧ w'.cell? ⟨gi, 2, none⟩ = some (.int .i64 q2) ∧ w'.cell? ⟨gi, 3, none⟩ = some (.int .i64 q3) ∧ Below g w w')) (by kernel_rfl) (hS _ (hi.drew) ((Below.refl g w).drew)) (fun hHeld => ?_)
  refine wpAnyH_take (i := 0) (oi := Go.Oper.mk (Option.some 100) (Go.Op.move (Go.Operand.tmp 8)) 114 "reader.go:102" #[] Option.none) (v := ?_) rfl (by kernel_rfl) (by kernel_rfl) (by kernel_rfl) (fun _ _ _ h => h) (Or.inl ⟨by rfl, ?_⟩) (by assumption) ?_
  rotate_left
  · intro W hSw; (try dsimp only at hSw); go_simp; (first | done | with_reducible rfl)
  try simp only [Act.put, List.setIfInBounds_toArray, List.set_cons_zero, List.set_cons_succ]
  refine wpAnyH_take (i := 1) (oi := Go.Oper.mk (Option.some 101) (Go.Op.move (Go.Operand.tmp 8)) 114 "reader.go:102" #[] Option.none) (v := ?_) rfl (by kernel_rfl) (by kernel_rfl) (by kernel_rfl) (fun _ _ _ h => h) (Or.inl ⟨by rfl, ?_⟩) (by assumption) ?_
  rotate_left
  · intro W hSw; (try dsimp only at hSw); go_simp; (first | done | with_reducible rfl)
  try simp only [Act.put, List.setIfInBounds_toArray, List.set_cons_zero, List.set_cons_succ]
  refine wpAnyH_take (i := 2) (oi := Go.Oper.mk (Option.some 102) (Go.Op.nilCheck (Go.Operand.tmp 101)) 0 "reader.go:102" #[Go.Edge.mk 1 Go.Ground.data] Option.none) (v := ?_) rfl (by kernel_rfl) (by kernel_rfl) (by kernel_rfl) (fun _ _ _ h => h) (Or.inl ⟨by rfl, ?_⟩) (by assumption) ?_
  rotate_left
  · intro W hSw; (try dsimp only at hSw); go_simp; (first | done | with_reducible rfl)
  try simp only [Act.put, List.setIfInBounds_toArray, List.set_cons_zero, List.set_cons_succ]
  refine wpAnyH_take (i := 3) (oi := Go.Oper.mk (Option.some 103) (Go.Op.fieldAddr 28 (Go.Operand.tmp 102) 4) 0 "reader.go:102" #[Go.Edge.mk 2 Go.Ground.data] Option.none) (v := ?_) rfl (by kernel_rfl) (by kernel_rfl) (by kernel_rfl) (fun _ _ _ h => h) (Or.inl ⟨by rfl, ?_⟩) (by assumption) ?_
  rotate_left
  · intro W hSw; (try dsimp only at hSw); go_simp; (first | done | with_reducible rfl)
  try simp only [Act.put, List.setIfInBounds_toArray, List.set_cons_zero, List.set_cons_succ]
  refine wpAnyH_take (i := 5) (oi := Go.Oper.mk (Option.some 105) (Go.Op.move (Go.Operand.tmp 2)) 22 "reader.go:102" #[] Option.none) (v := ?_) rfl (by kernel_rfl) (by kernel_rfl) (by kernel_rfl) (fun _ _ _ h => h) (Or.inl ⟨by rfl, ?_⟩) (by assumption) ?_
  rotate_left
  · intro W hSw; (try dsimp only at hSw); go_simp; (first | done | with_reducible rfl)
  try simp only [Act.put, List.setIfInBounds_toArray, List.set_cons_zero, List.set_cons_succ]
  refine wpAnyH_take (i := 6) (oi := Go.Oper.mk (Option.some 106) (Go.Op.indexAddr 22 (Go.Operand.tmp 105) (Go.Operand.const (Go.Value.int Go.IntKind.i64 0))) 0 "reader.go:102" #[Go.Edge.mk 5 Go.Ground.data] Option.none) (v := ?_) rfl (by kernel_rfl) (by kernel_rfl) (by kernel_rfl) (fun _ _ _ h => h) (Or.inl ⟨by rfl, ?_⟩) (by assumption) ?_
  rotate_left
  · intro W hSw; (try dsimp only at hSw); go_simp; (first | done | with_reducible rfl)
  try simp only [Act.put, List.setIfInBounds_toArray, List.set_cons_zero, List.set_cons_succ]
  refine wpAnyH_take (i := 7) (oi := Go.Oper.mk (Option.some 107) (Go.Op.load 9 (Go.Operand.tmp 106)) 9 "reader.go:102" #[Go.Edge.mk 6 Go.Ground.data] Option.none) (v := ?_) rfl (by kernel_rfl) (by kernel_rfl) (by kernel_rfl) (fun _ _ _ h => h) (Or.inl ⟨by rfl, ?_⟩) (by assumption) ?_
  rotate_left
  · intro W hSw; (try dsimp only at hSw); go_simp; (first | done | with_reducible rfl)
  try simp only [Act.put, List.setIfInBounds_toArray, List.set_cons_zero, List.set_cons_succ]
  refine wpAnyH_take (i := 8) (oi := Go.Oper.mk (Option.some 108) (Go.Op.move (Go.Operand.tmp 3)) 68 "reader.go:102" #[] Option.none) (v := ?_) rfl (by kernel_rfl) (by kernel_rfl) (by kernel_rfl) (fun _ _ _ h => h) (Or.inl ⟨by rfl, ?_⟩) (by assumption) ?_
  rotate_left
  · intro W hSw; (try dsimp only at hSw); go_simp; (first | done | with_reducible rfl)
  try simp only [Act.put, List.setIfInBounds_toArray, List.set_cons_zero, List.set_cons_succ]
  refine wpAnyH_take (i := 9) (oi := Go.Oper.mk (Option.some 109) (Go.Op.indexAddr 68 (Go.Operand.tmp 108) (Go.Operand.const (Go.Value.int Go.IntKind.i64 1))) 0 "reader.go:102" #[Go.Edge.mk 8 Go.Ground.data] Option.none) (v := ?_) rfl (by kernel_rfl) (by kernel_rfl) (by kernel_rfl) (fun _ _ _ h => h) (Or.inl ⟨by rfl, ?_⟩) (by assumption) ?_
  rotate_left
  · intro W hSw; (try dsimp only at hSw); go_simp; (first | done | with_reducible rfl)
  try simp only [Act.put, List.setIfInBounds_toArray, List.set_cons_zero, List.set_cons_succ]
  refine wpAnyH_take (i := 10) (oi := Go.Oper.mk (Option.some 110) (Go.Op.load 3 (Go.Operand.tmp 109)) 3 "reader.go:102" #[Go.Edge.mk 9 Go.Ground.data] Option.none) (v := ?_) rfl (by kernel_rfl) (by kernel_rfl) (by kernel_rfl) (fun _ _ _ h => h) (Or.inl ⟨by rfl, ?_⟩) (by assumption) ?_
  rotate_left
  · intro W hSw; (try dsimp only at hSw); go_simp; (first | done | with_reducible rfl)
  try simp only [Act.put, List.setIfInBounds_toArray, List.set_cons_zero, List.set_cons_succ]
  refine wpAnyH_take (i := 11) (oi := Go.Oper.mk (Option.some 111) (Go.Op.move (Go.Operand.tmp 3)) 68 "reader.go:102" #[] Option.none) (v := ?_) rfl (by kernel_rfl) (by kernel_rfl) (by kernel_rfl) (fun _ _ _ h => h) (Or.inl ⟨by rfl, ?_⟩) (by assumption) ?_
  rotate_left
  · intro W hSw; (try dsimp only at hSw); go_simp; (first | done | with_reducible rfl)
  try simp only [Act.put, List.setIfInBounds_toArray, List.set_cons_zero, List.set_cons_succ]
  refine wpAnyH_take (i := 12) (oi := Go.Oper.mk (Option.some 112) (Go.Op.indexAddr 68 (Go.Operand.tmp 111) (Go.Operand.const (Go.Value.int Go.IntKind.i64 2))) 0 "reader.go:102" #[Go.Edge.mk 11 Go.Ground.data] Option.none) (v := ?_) rfl (by kernel_rfl) (by kernel_rfl) (by kernel_rfl) (fun _ _ _ h => h) (Or.inl ⟨by rfl, ?_⟩) (by assumption) ?_
  rotate_left
  · intro W hSw; (try dsimp only at hSw); go_simp; (first | done | with_reducible rfl)
  try simp only [Act.put, List.setIfInBounds_toArray, List.set_cons_zero, List.set_cons_succ]
  refine wpAnyH_take (i := 13) (oi := Go.Oper.mk (Option.some 113) (Go.Op.load 3 (Go.Operand.tmp 112)) 3 "reader.go:102" #[Go.Edge.mk 12 Go.Ground.data] Option.none) (v := ?_) rfl (by kernel_rfl) (by kernel_rfl) (by kernel_rfl) (fun _ _ _ h => h) (Or.inl ⟨by rfl, ?_⟩) (by assumption) ?_
  rotate_left
  · intro W hSw; (try dsimp only at hSw); go_simp; (first | done | with_reducible rfl)
  try simp only [Act.put, List.setIfInBounds_toArray, List.set_cons_zero, List.set_cons_succ]
  refine wpAnyH_take (i := 14) (oi := Go.Oper.mk (Option.some 114) (Go.Op.build 37 #[(0, Go.Operand.tmp 110), (1, Go.Operand.tmp 113)]) 37 "reader.go:102" #[Go.Edge.mk 10 Go.Ground.data, Go.Edge.mk 13 Go.Ground.data] Option.none) (v := ?_) rfl (by kernel_rfl) (by kernel_rfl) (by kernel_rfl) (fun _ _ _ h => h) (Or.inl ⟨by rfl, ?_⟩) (by assumption) ?_
  rotate_left
  · intro W hSw; (try dsimp only at hSw); go_simp; (first | done | with_reducible rfl)
  try simp only [Act.put, List.setIfInBounds_toArray, List.set_cons_zero, List.set_cons_succ]
  refine wpAnyH_take (i := 15) (oi := Go.Oper.mk (Option.some 115) (Go.Op.move (Go.Operand.tmp 3)) 68 "reader.go:102" #[] Option.none) (v := ?_) rfl (by kernel_rfl) (by kernel_rfl) (by kernel_rfl) (fun _ _ _ h => h) (Or.inl ⟨by rfl, ?_⟩) (by assumption) ?_
  rotate_left
  · intro W hSw; (try dsimp only at hSw); go_simp; (first | done | with_reducible rfl)
  try simp only [Act.put, List.setIfInBounds_toArray, List.set_cons_zero, List.set_cons_succ]
  refine wpAnyH_take (i := 16) (oi := Go.Oper.mk (Option.some 116) (Go.Op.indexAddr 68 (Go.Operand.tmp 115) (Go.Operand.const (Go.Value.int Go.IntKind.i64 3))) 0 "reader.go:102" #[Go.Edge.mk 15 Go.Ground.data] Option.none) (v := ?_) rfl (by kernel_rfl) (by kernel_rfl) (by kernel_rfl) (fun _ _ _ h => h) (Or.inl ⟨by rfl, ?_⟩) (by assumption) ?_
  rotate_left
  · intro W hSw; (try dsimp only at hSw); go_simp; (first | done | with_reducible rfl)
  try simp only [Act.put, List.setIfInBounds_toArray, List.set_cons_zero, List.set_cons_succ]
  refine wpAnyH_take (i := 17) (oi := Go.Oper.mk (Option.some 117) (Go.Op.load 3 (Go.Operand.tmp 116)) 3 "reader.go:102" #[Go.Edge.mk 16 Go.Ground.data] Option.none) (v := ?_) rfl (by kernel_rfl) (by kernel_rfl) (by kernel_rfl) (fun _ _ _ h => h) (Or.inl ⟨by rfl, ?_⟩) (by assumption) ?_
  rotate_left
  · intro W hSw; (try dsimp only at hSw); go_simp; (first | done | with_reducible rfl)
  try simp only [Act.put, List.setIfInBounds_toArray, List.set_cons_zero, List.set_cons_succ]
  refine wpAnyH_take (i := 18) (oi := Go.Oper.mk (Option.some 118) (Go.Op.build 41 #[(0, Go.Operand.tmp 107), (1, Go.Operand.tmp 114), (2, Go.Operand.tmp 117)]) 41 "reader.go:102" #[Go.Edge.mk 7 Go.Ground.data, Go.Edge.mk 14 Go.Ground.data, Go.Edge.mk 17 Go.Ground.data] Option.none) (v := ?_) rfl (by kernel_rfl) (by kernel_rfl) (by kernel_rfl) (fun _ _ _ h => h) (Or.inl ⟨by rfl, ?_⟩) (by assumption) ?_
  rotate_left
  · intro W hSw; (try dsimp only at hSw); go_simp; (first | done | with_reducible rfl)
  try simp only [Act.put, List.setIfInBounds_toArray, List.set_cons_zero, List.set_cons_succ]
  refine wpAnyH_ready (rs := [4, 19]) (by kernel_rfl) (by simp) (AllReadyH.cons (o := Go.Oper.mk (Option.some 104) (Go.Op.load 25 (Go.Operand.tmp 103)) 25 "reader.go:102" #[Go.Edge.mk 3 Go.Ground.data] Option.none) rfl (fun K hK => ?_) (AllReadyH.cons (o := Go.Oper.mk (Option.some 119) (Go.Op.buildSlice 25 1 #[(0, Go.Operand.tmp 118)]) 25 "reader.go:102" #[Go.Edge.mk 18 Go.Ground.data] Option.none) rfl (fun K hK => ?_) AllReadyH.nil))
  · go_simp
    refine hK.out _ _ ?_ (fun hHeld => ?_)
    · exact hS _ (hi.drew) ((Below.refl g w).drew)
    clear hK K
    try simp only [Act.put, List.setIfInBounds_toArray, List.set_cons_zero, List.set_cons_succ]
    refine wpAnyH_ready (rs := [19]) (by kernel_rfl) (by simp) (AllReadyH.cons (o := Go.Oper.mk (Option.some 119) (Go.Op.buildSlice 25 1 #[(0, Go.Operand.tmp 118)]) 25 "reader.go:102" #[Go.Edge.mk 18 Go.Ground.data] Option.none) rfl (fun K hK => ?_) AllReadyH.nil)
    go_simp
    refine hK.out _ _ ?_ (fun hHeld => ?_)
    · exact hS _ (hi.drew.alloc _) ((Below.refl g w).drew.alloc (Nat.le_of_lt h.blk.lt) _)
    clear hK K
    try simp only [Act.put, List.setIfInBounds_toArray, List.set_cons_zero, List.set_cons_succ]
    have hb1 : Below g w _ := ((Below.refl g w).drew.alloc (Nat.le_of_lt h.blk.lt) (.cells #[.string (bs s), .int .i64 q1, .int .i64 q2, .int .i64 q3] 41))
    have h1 := h.drew.alloc (.cells #[.string (bs s), .int .i64 q1, .int .i64 q2, .int .i64 q3] 41)
    have hi1 := hi.drew.alloc (.cells #[.string (bs s), .int .i64 q1, .int .i64 q2, .int .i64 q3] 41)
    refine wpAnyH_ready (rs := [20]) (by kernel_rfl) (by simp) (AllReadyH.cons (o := Go.Oper.mk (Option.some 120) (Go.Op.call (Go.Call.mk (Go.Callee.builtin Go.Builtin.append) #[Go.Operand.tmp 104, Go.Operand.tmp 119] #[25, 25])) 25 "reader.go:102" #[Go.Edge.mk 4 Go.Ground.data, Go.Edge.mk 19 Go.Ground.data] Option.none) rfl (fun K hK => ?_) AllReadyH.nil)
    refine step_append_r rfl _ _ 25 rfl (g + 1) 41 i0 _ 40 Tryz.underlying25 hi0 hz0 hz1 hz2 rfl (by decide) _ _ _ rfl h1.r4 _ ⟨s, ⟨q1, q2⟩, q3⟩ ⟨rfl, ⟨hsl, ⟨hq1, hq2⟩, hq3⟩⟩ (fun u hu => by (simp [sgnV] at hu; rcases hu with rfl | rfl | rfl | rfl <;> rfl)) _ rfl (blk_cells (Blk.new _ _ _ _ rfl)) hl (by omega) (by simp; have := h.blk.lt; omega) ?_
    intro u wn hnew hold hf
    obtain ⟨A9, c9, rfl, _⟩ := hnew.reads2
    have hb2 : Below g w wn := hf.keeps (Nat.le_succ g) (Nat.le_of_lt h1.blk.lt) hb1
    have hi2 := hf.blk hi1 (by decide)
    refine hK.out _ _ ?_ (fun hHeld => ?_)
    · exact hS _ (hi2) (hb2)
    clear hK K
    try simp only [Act.put, List.setIfInBounds_toArray, List.set_cons_zero, List.set_cons_succ]
    refine wpAnyH_take (i := 21) (oi := Go.Oper.mk (Option.some 121) (Go.Op.nilCheck (Go.Operand.tmp 100)) 0 "reader.go:102" #[Go.Edge.mk 0 Go.Ground.data, Go.Edge.mk 0 Go.Ground.phase, Go.Edge.mk 1 Go.Ground.phase, Go.Edge.mk 2 Go.Ground.phase, Go.Edge.mk 3 Go.Ground.phase, Go.Edge.mk 4 Go.Ground.phase, Go.Edge.mk 5 Go.Ground.phase, Go.Edge.mk 6 Go.Ground.phase, Go.Edge.mk 7 Go.Ground.phase, Go.Edge.mk 8 Go.Ground.phase, Go.Edge.mk 9 Go.Ground.phase, Go.Edge.mk 10 Go.Ground.phase, Go.Edge.mk 11 Go.Ground.phase, Go.Edge.mk 12 Go.Ground.phase, Go.Edge.mk 13 Go.Ground.phase, Go.Edge.mk 14 Go.Ground.phase, Go.Edge.mk 15 Go.Ground.phase, Go.Edge.mk 16 Go.Ground.phase, Go.Edge.mk 17 Go.Ground.phase, Go.Edge.mk 18 Go.Ground.phase, Go.Edge.mk 19 Go.Ground.phase, Go.Edge.mk 20 Go.Ground.phase] Option.none) (v := ?_) rfl (by kernel_rfl) (by kernel_rfl) (by kernel_rfl) (fun _ _ _ h => h) (Or.inl ⟨by rfl, ?_⟩) (by assumption) ?_
    rotate_left
    · intro W hSw; (try dsimp only at hSw); go_simp; (first | done | with_reducible rfl)
    try simp only [Act.put, List.setIfInBounds_toArray, List.set_cons_zero, List.set_cons_succ]
    refine wpAnyH_take (i := 22) (oi := Go.Oper.mk (Option.some 122) (Go.Op.fieldAddr 28 (Go.Operand.tmp 121) 4) 0 "reader.go:102" #[Go.Edge.mk 21 Go.Ground.data, Go.Edge.mk 0 Go.Ground.phase, Go.Edge.mk 1 Go.Ground.phase, Go.Edge.mk 2 Go.Ground.phase, Go.Edge.mk 3 Go.Ground.phase, Go.Edge.mk 4 Go.Ground.phase, Go.Edge.mk 5 Go.Ground.phase, Go.Edge.mk 6 Go.Ground.phase, Go.Edge.mk 7 Go.Ground.phase, Go.Edge.mk 8 Go.Ground.phase, Go.Edge.mk 9 Go.Ground.phase, Go.Edge.mk 10 Go.Ground.phase, Go.Edge.mk 11 Go.Ground.phase, Go.Edge.mk 12 Go.Ground.phase, Go.Edge.mk 13 Go.Ground.phase, Go.Edge.mk 14 Go.Ground.phase, Go.Edge.mk 15 Go.Ground.phase, Go.Edge.mk 16 Go.Ground.phase, Go.Edge.mk 17 Go.Ground.phase, Go.Edge.mk 18 Go.Ground.phase, Go.Edge.mk 19 Go.Ground.phase, Go.Edge.mk 20 Go.Ground.phase] Option.none) (v := ?_) rfl (by kernel_rfl) (by kernel_rfl) (by kernel_rfl) (fun _ _ _ h => h) (Or.inl ⟨by rfl, ?_⟩) (by assumption) ?_
    rotate_left
    · intro W hSw; (try dsimp only at hSw); go_simp; (first | done | with_reducible rfl)
    try simp only [Act.put, List.setIfInBounds_toArray, List.set_cons_zero, List.set_cons_succ]
    refine wpAnyH_ready (rs := [23]) (by kernel_rfl) (by simp) (AllReadyH.cons (o := Go.Oper.mk Option.none (Go.Op.store 25 (Go.Operand.tmp 122) (Go.Operand.tmp 120)) 0 "reader.go:102" #[Go.Edge.mk 22 Go.Ground.data, Go.Edge.mk 20 Go.Ground.data, Go.Edge.mk 20 Go.Ground.chain, Go.Edge.mk 0 Go.Ground.phase, Go.Edge.mk 1 Go.Ground.phase, Go.Edge.mk 2 Go.Ground.phase, Go.Edge.mk 3 Go.Ground.phase, Go.Edge.mk 4 Go.Ground.phase, Go.Edge.mk 5 Go.Ground.phase, Go.Edge.mk 6 Go.Ground.phase, Go.Edge.mk 7 Go.Ground.phase, Go.Edge.mk 8 Go.Ground.phase, Go.Edge.mk 9 Go.Ground.phase, Go.Edge.mk 10 Go.Ground.phase, Go.Edge.mk 11 Go.Ground.phase, Go.Edge.mk 12 Go.Ground.phase, Go.Edge.mk 13 Go.Ground.phase, Go.Edge.mk 14 Go.Ground.phase, Go.Edge.mk 15 Go.Ground.phase, Go.Edge.mk 16 Go.Ground.phase, Go.Edge.mk 17 Go.Ground.phase, Go.Edge.mk 18 Go.Ground.phase, Go.Edge.mk 19 Go.Ground.phase, Go.Edge.mk 20 Go.Ground.phase] Option.none) rfl (fun K hK => ?_) AllReadyH.nil)
    have hz := (h1.put4 hf hnew)
    rw [List.length_append, List.length_singleton] at hz
    have hcl := (hf.blk h1.blk (by decide)).cell 4
    have hfr := (hf.blk h1.blk (by decide)).free 4
    go_simp
    refine hK.out _ _ ?_ (fun hHeld => ?_)
    · exact hS _ (hi2.far (p := ⟨g, 4, none⟩) hgi _) (hb2.setCell (p := ⟨g, 4, none⟩) (Nat.le_refl g) _)
    clear hK K
    try simp only [Act.put, List.setIfInBounds_toArray, List.set_cons_zero, List.set_cons_succ]
    refine wpAnyH_done (by kernel_rfl) ?_ _
    go_wp2_with fail
    (try simp only [Exit.inBlock, Exit.then])
    refine bodyPost_end (results_none rfl _ _ _) rfl ?_
    exact ⟨rfl, ⟨_, _, _, _, _, hz⟩, hb2.setCell (p := ⟨g, 4, none⟩) (Nat.le_refl g) _⟩
  · go_simp
    refine hK.out _ _ ?_ (fun hHeld => ?_)
    · exact hS _ (hi.drew.alloc _) ((Below.refl g w).drew.alloc (Nat.le_of_lt h.blk.lt) _)
    clear hK K
    try simp only [Act.put, List.setIfInBounds_toArray, List.set_cons_zero, List.set_cons_succ]
    have hb1 : Below g w _ := ((Below.refl g w).drew.alloc (Nat.le_of_lt h.blk.lt) (.cells #[.string (bs s), .int .i64 q1, .int .i64 q2, .int .i64 q3] 41))
    have h1 := h.drew.alloc (.cells #[.string (bs s), .int .i64 q1, .int .i64 q2, .int .i64 q3] 41)
    have hi1 := hi.drew.alloc (.cells #[.string (bs s), .int .i64 q1, .int .i64 q2, .int .i64 q3] 41)
    have x1' : (w.alloc (.cells #[.string (bs s), .int .i64 q1, .int .i64 q2, .int .i64 q3] 41)).cell? ⟨g, 4, none⟩ = some v4 := (h.alloc _).x4
    refine wpAnyH_ready (rs := [4]) (by kernel_rfl) (by simp) (AllReadyH.cons (o := Go.Oper.mk (Option.some 104) (Go.Op.load 25 (Go.Operand.tmp 103)) 25 "reader.go:102" #[Go.Edge.mk 3 Go.Ground.data] Option.none) rfl (fun K hK => ?_) AllReadyH.nil)
    go_simp
    refine hK.out _ _ ?_ (fun hHeld => ?_)
    · exact hS _ (hi1) (hb1)
    clear hK K
    try simp only [Act.put, List.setIfInBounds_toArray, List.set_cons_zero, List.set_cons_succ]
    refine wpAnyH_ready (rs := [20]) (by kernel_rfl) (by simp) (AllReadyH.cons (o := Go.Oper.mk (Option.some 120) (Go.Op.call (Go.Call.mk (Go.Callee.builtin Go.Builtin.append) #[Go.Operand.tmp 104, Go.Operand.tmp 119] #[25, 25])) 25 "reader.go:102" #[Go.Edge.mk 4 Go.Ground.data, Go.Edge.mk 19 Go.Ground.data] Option.none) rfl (fun K hK => ?_) AllReadyH.nil)
    refine step_append_r rfl _ _ 25 rfl (g + 1) 41 i0 _ 40 Tryz.underlying25 hi0 hz0 hz1 hz2 rfl (by decide) _ _ _ rfl h1.r4 _ ⟨s, ⟨q1, q2⟩, q3⟩ ⟨rfl, ⟨hsl, ⟨hq1, hq2⟩, hq3⟩⟩ (fun u hu => by (simp [sgnV] at hu; rcases hu with rfl | rfl | rfl | rfl <;> rfl)) _ rfl (blk_cells (Blk.new _ _ _ _ rfl)) hl (by omega) (by simp; have := h.blk.lt; omega) ?_
    intro u wn hnew hold hf
    obtain ⟨A9, c9, rfl, _⟩ := hnew.reads2
    have hb2 : Below g w wn := hf.keeps (Nat.le_succ g) (Nat.le_of_lt h1.blk.lt) hb1
    have hi2 := hf.blk hi1 (by decide)
    refine hK.out _ _ ?_ (fun hHeld => ?_)
    · exact hS _ (hi2) (hb2)
    clear hK K
    try simp only [Act.put, List.setIfInBounds_toArray, List.set_cons_zero, List.set_cons_succ]
    refine wpAnyH_take (i := 21) (oi := Go.Oper.mk (Option.some 121) (Go.Op.nilCheck (Go.Operand.tmp 100)) 0 "reader.go:102" #[Go.Edge.mk 0 Go.Ground.data, Go.Edge.mk 0 Go.Ground.phase, Go.Edge.mk 1 Go.Ground.phase, Go.Edge.mk 2 Go.Ground.phase, Go.Edge.mk 3 Go.Ground.phase, Go.Edge.mk 4 Go.Ground.phase, Go.Edge.mk 5 Go.Ground.phase, Go.Edge.mk 6 Go.Ground.phase, Go.Edge.mk 7 Go.Ground.phase, Go.Edge.mk 8 Go.Ground.phase, Go.Edge.mk 9 Go.Ground.phase, Go.Edge.mk 10 Go.Ground.phase, Go.Edge.mk 11 Go.Ground.phase, Go.Edge.mk 12 Go.Ground.phase, Go.Edge.mk 13 Go.Ground.phase, Go.Edge.mk 14 Go.Ground.phase, Go.Edge.mk 15 Go.Ground.phase, Go.Edge.mk 16 Go.Ground.phase, Go.Edge.mk 17 Go.Ground.phase, Go.Edge.mk 18 Go.Ground.phase, Go.Edge.mk 19 Go.Ground.phase, Go.Edge.mk 20 Go.Ground.phase] Option.none) (v := ?_) rfl (by kernel_rfl) (by kernel_rfl) (by kernel_rfl) (fun _ _ _ h => h) (Or.inl ⟨by rfl, ?_⟩) (by assumption) ?_
    rotate_left
    · intro W hSw; (try dsimp only at hSw); go_simp; (first | done | with_reducible rfl)
    try simp only [Act.put, List.setIfInBounds_toArray, List.set_cons_zero, List.set_cons_succ]
    refine wpAnyH_take (i := 22) (oi := Go.Oper.mk (Option.some 122) (Go.Op.fieldAddr 28 (Go.Operand.tmp 121) 4) 0 "reader.go:102" #[Go.Edge.mk 21 Go.Ground.data, Go.Edge.mk 0 Go.Ground.phase, Go.Edge.mk 1 Go.Ground.phase, Go.Edge.mk 2 Go.Ground.phase, Go.Edge.mk 3 Go.Ground.phase, Go.Edge.mk 4 Go.Ground.phase, Go.Edge.mk 5 Go.Ground.phase, Go.Edge.mk 6 Go.Ground.phase, Go.Edge.mk 7 Go.Ground.phase, Go.Edge.mk 8 Go.Ground.phase, Go.Edge.mk 9 Go.Ground.phase, Go.Edge.mk 10 Go.Ground.phase, Go.Edge.mk 11 Go.Ground.phase, Go.Edge.mk 12 Go.Ground.phase, Go.Edge.mk 13 Go.Ground.phase, Go.Edge.mk 14 Go.Ground.phase, Go.Edge.mk 15 Go.Ground.phase, Go.Edge.mk 16 Go.Ground.phase, Go.Edge.mk 17 Go.Ground.phase, Go.Edge.mk 18 Go.Ground.phase, Go.Edge.mk 19 Go.Ground.phase, Go.Edge.mk 20 Go.Ground.phase] Option.none) (v := ?_) rfl (by kernel_rfl) (by kernel_rfl) (by kernel_rfl) (fun _ _ _ h => h) (Or.inl ⟨by rfl, ?_⟩) (by assumption) ?_
    rotate_left
    · intro W hSw; (try dsimp only at hSw); go_simp; (first | done | with_reducible rfl)
    try simp only [Act.put, List.setIfInBounds_toArray, List.set_cons_zero, List.set_cons_succ]
    refine wpAnyH_ready (rs := [23]) (by kernel_rfl) (by simp) (AllReadyH.cons (o := Go.Oper.mk Option.none (Go.Op.store 25 (Go.Operand.tmp 122) (Go.Operand.tmp 120)) 0 "reader.go:102" #[Go.Edge.mk 22 Go.Ground.data, Go.Edge.mk 20 Go.Ground.data, Go.Edge.mk 20 Go.Ground.chain, Go.Edge.mk 0 Go.Ground.phase, Go.Edge.mk 1 Go.Ground.phase, Go.Edge.mk 2 Go.Ground.phase, Go.Edge.mk 3 Go.Ground.phase, Go.Edge.mk 4 Go.Ground.phase, Go.Edge.mk 5 Go.Ground.phase, Go.Edge.mk 6 Go.Ground.phase, Go.Edge.mk 7 Go.Ground.phase, Go.Edge.mk 8 Go.Ground.phase, Go.Edge.mk 9 Go.Ground.phase, Go.Edge.mk 10 Go.Ground.phase, Go.Edge.mk 11 Go.Ground.phase, Go.Edge.mk 12 Go.Ground.phase, Go.Edge.mk 13 Go.Ground.phase, Go.Edge.mk 14 Go.Ground.phase, Go.Edge.mk 15 Go.Ground.phase, Go.Edge.mk 16 Go.Ground.phase, Go.Edge.mk 17 Go.Ground.phase, Go.Edge.mk 18 Go.Ground.phase, Go.Edge.mk 19 Go.Ground.phase, Go.Edge.mk 20 Go.Ground.phase] Option.none) rfl (fun K hK => ?_) AllReadyH.nil)
    have hz := (h1.put4 hf hnew)
    rw [List.length_append, List.length_singleton] at hz
    have hcl := (hf.blk h1.blk (by decide)).cell 4
    have hfr := (hf.blk h1.blk (by decide)).free 4
    go_simp
    refine hK.out _ _ ?_ (fun hHeld => ?_)
    · exact hS _ (hi2.far (p := ⟨g, 4, none⟩) hgi _) (hb2.setCell (p := ⟨g, 4, none⟩) (Nat.le_refl g) _)
    clear hK K
    try simp only [Act.put, List.setIfInBounds_toArray, List.set_cons_zero, List.set_cons_succ]
    refine wpAnyH_done (by kernel_rfl) ?_ _
    go_wp2_with fail
    (try simp only [Exit.inBlock, Exit.then])
    refine bodyPost_end (results_none rfl _ _ _) rfl ?_
    exact ⟨rfl, ⟨_, _, _, _, _, hz⟩, hb2.setCell (p := ⟨g, 4, none⟩) (Nat.le_refl g) _⟩
end Go.Proofs.YtopoknocfoiiaaaGreatDoor
namespace Go.Proofs.YtopoknocfoiiaaaGreatDoor
set_option linter.unusedVariables false
set_option linter.unusedSimpArgs false
open Go.RowKit
attribute [local go_sem] bs_size bs_get bs_append bs_extract bs_toList
attribute [-go_sem] run_equalIn_agg
set_option maxRecDepth 100000 in
set_option maxHeartbeats 4000000 in
theorem add_layout (w : World) (g : Nat) (l : Lay) (p : Int) (v1 v2 v3 v4 v5 : Value) (h : RW w g l p v1 v2 v3 v4 v5) (vv : Value) (s : List UInt8) (b off n c : Nat) (hn : 0 < n) (y : w.cell? ⟨b, off, none⟩ = some (.string (bs s))) :
    Calls Tryz.prog 52 #[.pointer (some ⟨g, 0, none⟩), .string (bs layoutW), .slice (some ⟨b, off, none⟩) n c, vv] w fun e w' => e = .returned (.tuple #[]) ∧ RWS w' g { l with name := s } p ∧ Below g w w' := by
  have x0 := h.x0
  have f0 := h.free 0
  have hni : (0 : Int) < (n : Int) := by omega
  go_enter Tryz.func52, Tryz.ntmps52
  go_wp2_with fail
  (try simp only [Exit.inBlock, Exit.then])
  refine bodyPost_end (results_none rfl _ _ _) rfl ?_
  exact ⟨rfl, ⟨_, _, _, _, _, h.put0 s⟩, (Below.refl g w).setCell (p := ⟨g, 0, none⟩) (Nat.le_refl g) _⟩
theorem kinds_look {w : World} {b : Nat} (hk : KindsW w b) (x : List UInt8) (hx : x.length ≤ maxLen) : (Instr.lookup 66 (.map (some b)) (.string (bs x)) false).run Tryz.prog w = .ok (.int .i64 (kindF x)) w := by
  obtain ⟨c, hrun, hat, _⟩ := World.ownsMap.lookup_int (q := .i64) hk strKey Tryz.underlying66 Tryz.underlying3 (by kernel_rfl) (str_key x hx)
  rw [kinds_at] at hat
  have hc : c = kindF x := by
    unfold kindF
    by_cases h3 : x = crossW
    · subst h3; simp only [if_true, DataW.lit.injEq, Lit.int.injEq, true_and] at hat; rw [← hat]; rfl
    · rw [if_neg h3] at hat
      by_cases h2 : x = pointsW
      · subst h2; simp only [if_true, DataW.lit.injEq, Lit.int.injEq, true_and] at hat; rw [← hat]; rfl
      · rw [if_neg h2] at hat
        by_cases h1 : x = trackW
        · subst h1; simp only [if_true, DataW.lit.injEq, Lit.int.injEq, true_and] at hat; rw [← hat]; rfl
        · rw [if_neg h1] at hat
          simp only [DataW.lit.injEq, Lit.int.injEq, true_and] at hat
          rw [← hat, if_neg h1, if_neg h2, if_neg h3]
  rw [hrun, hc]
end Go.Proofs.YtopoknocfoiiaaaGreatDoor
