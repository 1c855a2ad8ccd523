/- The reference's with: a list set in a route. -/
import Derived.Test.YtlblfblkallnhaaGreatDoorTbRqB
namespace Go.Proofs.YtlblfblkallnhaaGreatDoor
set_option linter.unusedVariables false
set_option linter.unusedSimpArgs false
open Go.RowKit
attribute [local go_sem] bs_size bs_get bs_append bs_extract bs_toList
attribute [-go_sem] run_equalIn_agg
def put14 (w : World) (g : Nat) (a0 a1 a2 a3 a4 a5 a6 a7 a8 a9 a10 a11 a12 a13 : Value) : World := ((((((((((((((w.setCell ⟨g, 0, none⟩ a0).setCell ⟨g, 1, none⟩ a1).setCell ⟨g, 2, none⟩ a2).setCell ⟨g, 3, none⟩ a3).setCell ⟨g, 4, none⟩ a4).setCell ⟨g, 5, none⟩ a5).setCell ⟨g, 6, none⟩ a6).setCell ⟨g, 7, none⟩ a7).setCell ⟨g, 8, none⟩ a8).setCell ⟨g, 9, none⟩ a9).setCell ⟨g, 10, none⟩ a10).setCell ⟨g, 11, none⟩ a11).setCell ⟨g, 12, none⟩ a12).setCell ⟨g, 13, none⟩ a13)
theorem put14_blk {w : World} {g : Nat} {T : TypeId} {b0 b1 b2 b3 b4 b5 b6 b7 b8 b9 b10 b11 b12 b13 : Value} (h : Blk w g T #[b0, b1, b2, b3, b4, b5, b6, b7, b8, b9, b10, b11, b12, b13]) (a0 a1 a2 a3 a4 a5 a6 a7 a8 a9 a10 a11 a12 a13 : Value) : Blk (put14 w g a0 a1 a2 a3 a4 a5 a6 a7 a8 a9 a10 a11 a12 a13) g T #[a0, a1, a2, a3, a4, a5, a6, a7, a8, a9, a10, a11, a12, a13] := by
  unfold put14
  replace h : Blk (w.setCell ⟨g, 0, none⟩ a0) g T #[a0, b1, b2, b3, b4, b5, b6, b7, b8, b9, b10, b11, b12, b13] := by have h2 := h.set 0 a0; simpa only [List.setIfInBounds_toArray, List.set_cons_zero, List.set_cons_succ] using h2
  replace h : Blk ((w.setCell ⟨g, 0, none⟩ a0).setCell ⟨g, 1, none⟩ a1) g T #[a0, a1, b2, b3, b4, b5, b6, b7, b8, b9, b10, b11, b12, b13] := by have h2 := h.set 1 a1; simpa only [List.setIfInBounds_toArray, List.set_cons_zero, List.set_cons_succ] using h2
  replace h : Blk (((w.setCell ⟨g, 0, none⟩ a0).setCell ⟨g, 1, none⟩ a1).setCell ⟨g, 2, none⟩ a2) g T #[a0, a1, a2, b3, b4, b5, b6, b7, b8, b9, b10, b11, b12, b13] := by have h2 := h.set 2 a2; simpa only [List.setIfInBounds_toArray, List.set_cons_zero, List.set_cons_succ] using h2
  replace h : Blk ((((w.setCell ⟨g, 0, none⟩ a0).setCell ⟨g, 1, none⟩ a1).setCell ⟨g, 2, none⟩ a2).setCell ⟨g, 3, none⟩ a3) g T #[a0, a1, a2, a3, b4, b5, b6, b7, b8, b9, b10, b11, b12, b13] := by have h2 := h.set 3 a3; simpa only [List.setIfInBounds_toArray, List.set_cons_zero, List.set_cons_succ] using h2
  replace h : Blk (((((w.setCell ⟨g, 0, none⟩ a0).setCell ⟨g, 1, none⟩ a1).setCell ⟨g, 2, none⟩ a2).setCell ⟨g, 3, none⟩ a3).setCell ⟨g, 4, none⟩ a4) g T #[a0, a1, a2, a3, a4, b5, b6, b7, b8, b9, b10, b11, b12, b13] := by have h2 := h.set 4 a4; simpa only [List.setIfInBounds_toArray, List.set_cons_zero, List.set_cons_succ] using h2
  replace h : Blk ((((((w.setCell ⟨g, 0, none⟩ a0).setCell ⟨g, 1, none⟩ a1).setCell ⟨g, 2, none⟩ a2).setCell ⟨g, 3, none⟩ a3).setCell ⟨g, 4, none⟩ a4).setCell ⟨g, 5, none⟩ a5) g T #[a0, a1, a2, a3, a4, a5, b6, b7, b8, b9, b10, b11, b12, b13] := by have h2 := h.set 5 a5; simpa only [List.setIfInBounds_toArray, List.set_cons_zero, List.set_cons_succ] using h2
  replace h : Blk (((((((w.setCell ⟨g, 0, none⟩ a0).setCell ⟨g, 1, none⟩ a1).setCell ⟨g, 2, none⟩ a2).setCell ⟨g, 3, none⟩ a3).setCell ⟨g, 4, none⟩ a4).setCell ⟨g, 5, none⟩ a5).setCell ⟨g, 6, none⟩ a6) g T #[a0, a1, a2, a3, a4, a5, a6, b7, b8, b9, b10, b11, b12, b13] := by have h2 := h.set 6 a6; simpa only [List.setIfInBounds_toArray, List.set_cons_zero, List.set_cons_succ] using h2
  replace h : Blk ((((((((w.setCell ⟨g, 0, none⟩ a0).setCell ⟨g, 1, none⟩ a1).setCell ⟨g, 2, none⟩ a2).setCell ⟨g, 3, none⟩ a3).setCell ⟨g, 4, none⟩ a4).setCell ⟨g, 5, none⟩ a5).setCell ⟨g, 6, none⟩ a6).setCell ⟨g, 7, none⟩ a7) g T #[a0, a1, a2, a3, a4, a5, a6, a7, b8, b9, b10, b11, b12, b13] := by have h2 := h.set 7 a7; simpa only [List.setIfInBounds_toArray, List.set_cons_zero, List.set_cons_succ] using h2
  replace h : Blk (((((((((w.setCell ⟨g, 0, none⟩ a0).setCell ⟨g, 1, none⟩ a1).setCell ⟨g, 2, none⟩ a2).setCell ⟨g, 3, none⟩ a3).setCell ⟨g, 4, none⟩ a4).setCell ⟨g, 5, none⟩ a5).setCell ⟨g, 6, none⟩ a6).setCell ⟨g, 7, none⟩ a7).setCell ⟨g, 8, none⟩ a8) g T #[a0, a1, a2, a3, a4, a5, a6, a7, a8, b9, b10, b11, b12, b13] := by have h2 := h.set 8 a8; simpa only [List.setIfInBounds_toArray, List.set_cons_zero, List.set_cons_succ] using h2
  replace h : Blk ((((((((((w.setCell ⟨g, 0, none⟩ a0).setCell ⟨g, 1, none⟩ a1).setCell ⟨g, 2, none⟩ a2).setCell ⟨g, 3, none⟩ a3).setCell ⟨g, 4, none⟩ a4).setCell ⟨g, 5, none⟩ a5).setCell ⟨g, 6, none⟩ a6).setCell ⟨g, 7, none⟩ a7).setCell ⟨g, 8, none⟩ a8).setCell ⟨g, 9, none⟩ a9) g T #[a0, a1, a2, a3, a4, a5, a6, a7, a8, a9, b10, b11, b12, b13] := by have h2 := h.set 9 a9; simpa only [List.setIfInBounds_toArray, List.set_cons_zero, List.set_cons_succ] using h2
  replace h : Blk (((((((((((w.setCell ⟨g, 0, none⟩ a0).setCell ⟨g, 1, none⟩ a1).setCell ⟨g, 2, none⟩ a2).setCell ⟨g, 3, none⟩ a3).setCell ⟨g, 4, none⟩ a4).setCell ⟨g, 5, none⟩ a5).setCell ⟨g, 6, none⟩ a6).setCell ⟨g, 7, none⟩ a7).setCell ⟨g, 8, none⟩ a8).setCell ⟨g, 9, none⟩ a9).setCell ⟨g, 10, none⟩ a10) g T #[a0, a1, a2, a3, a4, a5, a6, a7, a8, a9, a10, b11, b12, b13] := by have h2 := h.set 10 a10; simpa only [List.setIfInBounds_toArray, List.set_cons_zero, List.set_cons_succ] using h2
  replace h : Blk ((((((((((((w.setCell ⟨g, 0, none⟩ a0).setCell ⟨g, 1, none⟩ a1).setCell ⟨g, 2, none⟩ a2).setCell ⟨g, 3, none⟩ a3).setCell ⟨g, 4, none⟩ a4).setCell ⟨g, 5, none⟩ a5).setCell ⟨g, 6, none⟩ a6).setCell ⟨g, 7, none⟩ a7).setCell ⟨g, 8, none⟩ a8).setCell ⟨g, 9, none⟩ a9).setCell ⟨g, 10, none⟩ a10).setCell ⟨g, 11, none⟩ a11) g T #[a0, a1, a2, a3, a4, a5, a6, a7, a8, a9, a10, a11, b12, b13] := by have h2 := h.set 11 a11; simpa only [List.setIfInBounds_toArray, List.set_cons_zero, List.set_cons_succ] using h2
  replace h : Blk (((((((((((((w.setCell ⟨g, 0, none⟩ a0).setCell ⟨g, 1, none⟩ a1).setCell ⟨g, 2, none⟩ a2).setCell ⟨g, 3, none⟩ a3).setCell ⟨g, 4, none⟩ a4).setCell ⟨g, 5, none⟩ a5).setCell ⟨g, 6, none⟩ a6).setCell ⟨g, 7, none⟩ a7).setCell ⟨g, 8, none⟩ a8).setCell ⟨g, 9, none⟩ a9).setCell ⟨g, 10, none⟩ a10).setCell ⟨g, 11, none⟩ a11).setCell ⟨g, 12, none⟩ a12) g T #[a0, a1, a2, a3, a4, a5, a6, a7, a8, a9, a10, a11, a12, b13] := by have h2 := h.set 12 a12; simpa only [List.setIfInBounds_toArray, List.set_cons_zero, List.set_cons_succ] using h2
  replace h : Blk ((((((((((((((w.setCell ⟨g, 0, none⟩ a0).setCell ⟨g, 1, none⟩ a1).setCell ⟨g, 2, none⟩ a2).setCell ⟨g, 3, none⟩ a3).setCell ⟨g, 4, none⟩ a4).setCell ⟨g, 5, none⟩ a5).setCell ⟨g, 6, none⟩ a6).setCell ⟨g, 7, none⟩ a7).setCell ⟨g, 8, none⟩ a8).setCell ⟨g, 9, none⟩ a9).setCell ⟨g, 10, none⟩ a10).setCell ⟨g, 11, none⟩ a11).setCell ⟨g, 12, none⟩ a12).setCell ⟨g, 13, none⟩ a13) g T #[a0, a1, a2, a3, a4, a5, a6, a7, a8, a9, a10, a11, a12, a13] := by have h2 := h.set 13 a13; simpa only [List.setIfInBounds_toArray, List.set_cons_zero, List.set_cons_succ] using h2
  exact h
theorem put14_far (w : World) (g : Nat) (a0 a1 a2 a3 a4 a5 a6 a7 a8 a9 a10 a11 a12 a13 : Value) (k : Nat) (hk : k ≠ g) : (put14 w g a0 a1 a2 a3 a4 a5 a6 a7 a8 a9 a10 a11 a12 a13).heap[k]? = w.heap[k]? := by
  unfold put14
  rw [Below.heap_setCell _ _ _ _ hk, Below.heap_setCell _ _ _ _ hk, Below.heap_setCell _ _ _ _ hk, Below.heap_setCell _ _ _ _ hk, Below.heap_setCell _ _ _ _ hk, Below.heap_setCell _ _ _ _ hk, Below.heap_setCell _ _ _ _ hk, Below.heap_setCell _ _ _ _ hk, Below.heap_setCell _ _ _ _ hk, Below.heap_setCell _ _ _ _ hk, Below.heap_setCell _ _ _ _ hk, Below.heap_setCell _ _ _ _ hk, Below.heap_setCell _ _ _ _ hk, Below.heap_setCell _ _ _ _ hk]
theorem put14_size (w : World) (g : Nat) (a0 a1 a2 a3 a4 a5 a6 a7 a8 a9 a10 a11 a12 a13 : Value) : (put14 w g a0 a1 a2 a3 a4 a5 a6 a7 a8 a9 a10 a11 a12 a13).heap.size = w.heap.size := by simp [put14, World.setCell]
theorem put14_bel {w0 w : World} {B g : Nat} (h : Below B w0 w) (hg : B ≤ g) (a0 a1 a2 a3 a4 a5 a6 a7 a8 a9 a10 a11 a12 a13 : Value) : Below B w0 (put14 w g a0 a1 a2 a3 a4 a5 a6 a7 a8 a9 a10 a11 a12 a13) := by
  unfold put14
  exact ((((((((((((((h.setCell (p := ⟨g, 0, none⟩) hg a0).setCell (p := ⟨g, 1, none⟩) hg a1).setCell (p := ⟨g, 2, none⟩) hg a2).setCell (p := ⟨g, 3, none⟩) hg a3).setCell (p := ⟨g, 4, none⟩) hg a4).setCell (p := ⟨g, 5, none⟩) hg a5).setCell (p := ⟨g, 6, none⟩) hg a6).setCell (p := ⟨g, 7, none⟩) hg a7).setCell (p := ⟨g, 8, none⟩) hg a8).setCell (p := ⟨g, 9, none⟩) hg a9).setCell (p := ⟨g, 10, none⟩) hg a10).setCell (p := ⟨g, 11, none⟩) hg a11).setCell (p := ⟨g, 12, none⟩) hg a12).setCell (p := ⟨g, 13, none⟩) hg a13)
def WithP (w : World) (S : Nat → Prop) (r : Rou) (e : Ending) (w' : World) : Prop := ∃ v : RouV, v.r = r ∧ e = .returned (.agg #[.string (bs v.r.name), .int .i64 v.r.ent, .int .i64 v.r.ext, .slice v.A1 v.r.path.length v.c1, .slice v.A2 v.r.pts.length v.c2, .slice v.A3 v.r.secs.length v.c3, .int .i64 v.r.app, .int .i64 v.r.len, .slice v.A4 v.r.over.length v.c4, .slice v.A5 v.r.opts.length v.c5, .slice v.A6 v.r.osecs.length v.c6, .slice v.A7 v.r.flk.length v.c7, .slice v.A8 v.r.grd.length v.c8, .slice v.A9 v.r.gap.length v.c9]) ∧ RvR w' (fun b => S b ∨ (w.heap.size ≤ b ∧ b < w'.heap.size)) v ∧ Below w.heap.size w w'
/-- Blocks beside two boxes. -/
def Out2 (S : Nat → Prop) (w : World) (g : Nat) : Nat → Prop := fun b => (S b ∨ (g ≤ b ∧ b < w.heap.size)) ∧ b ≠ g ∧ b ≠ g + 1
theorem RvR.out {S : Nat → Prop} {w W : World} {g : Nat} {v : RouV} (h : RvR w (Out2 S w g) v) (hs : ∀ k, k ≠ g → k ≠ g + 1 → W.heap[k]? = w.heap[k]?) (hz : W.heap.size = w.heap.size) : RvR W (fun b => S b ∨ (g ≤ b ∧ b < W.heap.size)) v :=
  (h.keep fun p hp => cell_same (hs p.block hp.2.1 hp.2.2)).more fun b hb => by (rw [hz]; exact hb.1)
theorem own_out {α : Type} {S : Nat → Prop} {c : Cod α} {w : World} {base g : Nat} {e : TypeId} {A : Option Addr} {n cap : Nat} {l : List α} (h : OwnR c w base e (.slice A n cap) l 0) (hg : g + 1 < base) : (l.length ≤ maxLen ∧ l.length ≤ cap) ∧ RdS c w (Out2 S w g) A l := by
  obtain ⟨A', c', h1, h2, h3⟩ := h.rds (S := Out2 S w g) (fun b cs hb hbs => ⟨Or.inr ⟨by omega, lt_heap hb⟩, by omega, by omega⟩) (fun b hb => absurd hb.1 (Nat.not_lt_zero _))
  simp only [Value.slice.injEq] at h1
  obtain ⟨rfl, rfl, rfl⟩ := h1
  exact ⟨h2, h3⟩
theorem RvR.put1 {w : World} {S : Nat → Prop} {v : RouV} (h : RvR w S v) (A : Option Addr) (c : Nat) (l : List Stp) (hr : RdS cStp w S A l) (hn : l.length ≤ maxLen ∧ l.length ≤ c) : RvR w S { v with r := { v.r with path := l }, A1 := A, c1 := c } :=
  ⟨⟨h.o.nm, h.o.ent, h.o.ext, h.o.app, h.o.len, hn, h.o.n2, h.o.n3, h.o.n4, h.o.n5, h.o.n6, h.o.n7, h.o.n8, h.o.n9⟩, hr, h.r2, h.r3, h.r4, h.r5, h.r6, h.r7, h.r8, h.r9⟩
theorem RvR.put2 {w : World} {S : Nat → Prop} {v : RouV} (h : RvR w S v) (A : Option Addr) (c : Nat) (l : List Stg) (hr : RdS cStg w S A l) (hn : l.length ≤ maxLen ∧ l.length ≤ c) : RvR w S { v with r := { v.r with pts := l }, A2 := A, c2 := c } :=
  ⟨⟨h.o.nm, h.o.ent, h.o.ext, h.o.app, h.o.len, h.o.n1, hn, h.o.n3, h.o.n4, h.o.n5, h.o.n6, h.o.n7, h.o.n8, h.o.n9⟩, h.r1, hr, h.r3, h.r4, h.r5, h.r6, h.r7, h.r8, h.r9⟩
theorem RvR.put3 {w : World} {S : Nat → Prop} {v : RouV} (h : RvR w S v) (A : Option Addr) (c : Nat) (l : List Int) (hr : RdS cI w S A l) (hn : l.length ≤ maxLen ∧ l.length ≤ c) : RvR w S { v with r := { v.r with secs := l }, A3 := A, c3 := c } :=
  ⟨⟨h.o.nm, h.o.ent, h.o.ext, h.o.app, h.o.len, h.o.n1, h.o.n2, hn, h.o.n4, h.o.n5, h.o.n6, h.o.n7, h.o.n8, h.o.n9⟩, h.r1, h.r2, hr, h.r4, h.r5, h.r6, h.r7, h.r8, h.r9⟩
theorem RvR.put4 {w : World} {S : Nat → Prop} {v : RouV} (h : RvR w S v) (A : Option Addr) (c : Nat) (l : List Stp) (hr : RdS cStp w S A l) (hn : l.length ≤ maxLen ∧ l.length ≤ c) : RvR w S { v with r := { v.r with over := l }, A4 := A, c4 := c } :=
  ⟨⟨h.o.nm, h.o.ent, h.o.ext, h.o.app, h.o.len, h.o.n1, h.o.n2, h.o.n3, hn, h.o.n5, h.o.n6, h.o.n7, h.o.n8, h.o.n9⟩, h.r1, h.r2, h.r3, hr, h.r5, h.r6, h.r7, h.r8, h.r9⟩
theorem RvR.put5 {w : World} {S : Nat → Prop} {v : RouV} (h : RvR w S v) (A : Option Addr) (c : Nat) (l : List Stg) (hr : RdS cStg w S A l) (hn : l.length ≤ maxLen ∧ l.length ≤ c) : RvR w S { v with r := { v.r with opts := l }, A5 := A, c5 := c } :=
  ⟨⟨h.o.nm, h.o.ent, h.o.ext, h.o.app, h.o.len, h.o.n1, h.o.n2, h.o.n3, h.o.n4, hn, h.o.n6, h.o.n7, h.o.n8, h.o.n9⟩, h.r1, h.r2, h.r3, h.r4, hr, h.r6, h.r7, h.r8, h.r9⟩
theorem RvR.put6 {w : World} {S : Nat → Prop} {v : RouV} (h : RvR w S v) (A : Option Addr) (c : Nat) (l : List Int) (hr : RdS cI w S A l) (hn : l.length ≤ maxLen ∧ l.length ≤ c) : RvR w S { v with r := { v.r with osecs := l }, A6 := A, c6 := c } :=
  ⟨⟨h.o.nm, h.o.ent, h.o.ext, h.o.app, h.o.len, h.o.n1, h.o.n2, h.o.n3, h.o.n4, h.o.n5, hn, h.o.n7, h.o.n8, h.o.n9⟩, h.r1, h.r2, h.r3, h.r4, h.r5, hr, h.r7, h.r8, h.r9⟩
theorem RvR.put7 {w : World} {S : Nat → Prop} {v : RouV} (h : RvR w S v) (A : Option Addr) (c : Nat) (l : List Stg) (hr : RdS cStg w S A l) (hn : l.length ≤ maxLen ∧ l.length ≤ c) : RvR w S { v with r := { v.r with flk := l }, A7 := A, c7 := c } :=
  ⟨⟨h.o.nm, h.o.ent, h.o.ext, h.o.app, h.o.len, h.o.n1, h.o.n2, h.o.n3, h.o.n4, h.o.n5, h.o.n6, hn, h.o.n8, h.o.n9⟩, h.r1, h.r2, h.r3, h.r4, h.r5, h.r6, hr, h.r8, h.r9⟩
theorem RvR.put8 {w : World} {S : Nat → Prop} {v : RouV} (h : RvR w S v) (A : Option Addr) (c : Nat) (l : List Int) (hr : RdS cI w S A l) (hn : l.length ≤ maxLen ∧ l.length ≤ c) : RvR w S { v with r := { v.r with grd := l }, A8 := A, c8 := c } :=
  ⟨⟨h.o.nm, h.o.ent, h.o.ext, h.o.app, h.o.len, h.o.n1, h.o.n2, h.o.n3, h.o.n4, h.o.n5, h.o.n6, h.o.n7, hn, h.o.n9⟩, h.r1, h.r2, h.r3, h.r4, h.r5, h.r6, h.r7, hr, h.r9⟩
theorem RvR.put9 {w : World} {S : Nat → Prop} {v : RouV} (h : RvR w S v) (A : Option Addr) (c : Nat) (l : List End2) (hr : RdS cEnd w S A l) (hn : l.length ≤ maxLen ∧ l.length ≤ c) : RvR w S { v with r := { v.r with gap := l }, A9 := A, c9 := c } :=
  ⟨⟨h.o.nm, h.o.ent, h.o.ext, h.o.app, h.o.len, h.o.n1, h.o.n2, h.o.n3, h.o.n4, h.o.n5, h.o.n6, h.o.n7, h.o.n8, hn⟩, h.r1, h.r2, h.r3, h.r4, h.r5, h.r6, h.r7, h.r8, hr⟩
def W2r (w : World) (r : RouV) : World := (w.alloc (.cells #[.string (bs r.r.name), .int .i64 r.r.ent, .int .i64 r.r.ext, .slice r.A1 r.r.path.length r.c1, .slice r.A2 r.r.pts.length r.c2, .slice r.A3 r.r.secs.length r.c3, .int .i64 r.r.app, .int .i64 r.r.len, .slice r.A4 r.r.over.length r.c4, .slice r.A5 r.r.opts.length r.c5, .slice r.A6 r.r.osecs.length r.c6, .slice r.A7 r.r.flk.length r.c7, .slice r.A8 r.r.grd.length r.c8, .slice r.A9 r.r.gap.length r.c9] 41)).alloc (.cells #[.string { data := #[] }, .int .i64 0, .int .i64 0, .slice none 0 0, .slice none 0 0, .slice none 0 0, .int .i64 0, .int .i64 0, .slice none 0 0, .slice none 0 0, .slice none 0 0, .slice none 0 0, .slice none 0 0, .slice none 0 0] 41)
theorem w2_all (w : World) (r : RouV) : (Blk (W2r w r) w.heap.size 41 #[.string (bs r.r.name), .int .i64 r.r.ent, .int .i64 r.r.ext, .slice r.A1 r.r.path.length r.c1, .slice r.A2 r.r.pts.length r.c2, .slice r.A3 r.r.secs.length r.c3, .int .i64 r.r.app, .int .i64 r.r.len, .slice r.A4 r.r.over.length r.c4, .slice r.A5 r.r.opts.length r.c5, .slice r.A6 r.r.osecs.length r.c6, .slice r.A7 r.r.flk.length r.c7, .slice r.A8 r.r.grd.length r.c8, .slice r.A9 r.r.gap.length r.c9]) ∧ (Blk (W2r w r) (w.heap.size + 1) 41 #[.string { data := #[] }, .int .i64 0, .int .i64 0, .slice none 0 0, .slice none 0 0, .slice none 0 0, .int .i64 0, .int .i64 0, .slice none 0 0, .slice none 0 0, .slice none 0 0, .slice none 0 0, .slice none 0 0, .slice none 0 0]) ∧ (Below w.heap.size w (W2r w r)) ∧ ((W2r w r).heap.size = w.heap.size + 2) := by
  unfold W2r
  exact ⟨(Blk.new _ _ _ _ rfl).alloc _, Blk.new _ _ _ _ (by simp), ((Below.refl _ _).alloc (Nat.le_refl _) _).alloc (by simp) _, by simp⟩
theorem blk14 {w : World} {g : Nat} {T : TypeId} {a0 a1 a2 a3 a4 a5 a6 a7 a8 a9 a10 a11 a12 a13 : Value} (h : Blk w g T #[a0, a1, a2, a3, a4, a5, a6, a7, a8, a9, a10, a11, a12, a13]) : w.cell? ⟨g, 0, none⟩ = some a0 ∧ w.cell? ⟨g, 1, none⟩ = some a1 ∧ w.cell? ⟨g, 2, none⟩ = some a2 ∧ w.cell? ⟨g, 3, none⟩ = some a3 ∧ w.cell? ⟨g, 4, none⟩ = some a4 ∧ w.cell? ⟨g, 5, none⟩ = some a5 ∧ w.cell? ⟨g, 6, none⟩ = some a6 ∧ w.cell? ⟨g, 7, none⟩ = some a7 ∧ w.cell? ⟨g, 8, none⟩ = some a8 ∧ w.cell? ⟨g, 9, none⟩ = some a9 ∧ w.cell? ⟨g, 10, none⟩ = some a10 ∧ w.cell? ⟨g, 11, none⟩ = some a11 ∧ w.cell? ⟨g, 12, none⟩ = some a12 ∧ w.cell? ⟨g, 13, none⟩ = some a13 :=
  ⟨h.cell 0, h.cell 1, h.cell 2, h.cell 3, h.cell 4, h.cell 5, h.cell 6, h.cell 7, h.cell 8, h.cell 9, h.cell 10, h.cell 11, h.cell 12, h.cell 13⟩
set_option maxRecDepth 100000 in
set_option maxHeartbeats 8000000 in
theorem rWith_4 (r : RouV) (l : List Int) (A : Option Addr) (cap : Nat) (w : World) (S : Nat → Prop) (hS : ∀ b, S b → b < w.heap.size) (hr : RvR w S r) (hl : RdS cI w S A l) (hn : l.length ≤ 100000 ∧ l.length ≤ cap) :
    Calls Tryz.prog 68 #[.agg #[.string (bs r.r.name), .int .i64 r.r.ent, .int .i64 r.r.ext, .slice r.A1 r.r.path.length r.c1, .slice r.A2 r.r.pts.length r.c2, .slice r.A3 r.r.secs.length r.c3, .int .i64 r.r.app, .int .i64 r.r.len, .slice r.A4 r.r.over.length r.c4, .slice r.A5 r.r.opts.length r.c5, .slice r.A6 r.r.osecs.length r.c6, .slice r.A7 r.r.flk.length r.c7, .slice r.A8 r.r.grd.length r.c8, .slice r.A9 r.r.gap.length r.c9], .string (bs pathW), .slice A l.length cap] w (WithP w S (withF r.r pathW l)) := by
  have HW : Hid (withF r.r pathW l = { r.r with path := (pathF l) }) := Lib.hid (by unfold withF; rw [if_pos rfl])
  obtain ⟨hbx, hbz, hB0, hz0⟩ := w2_all w r
  unfold W2r at hbx hbz hB0 hz0
  have hl1 := (hl.more hS : RdS cI w (Lt w) A l).now hB0
  unfold pathW
  go_enter Tryz.func68, Tryz.ntmps68
  have HC := Lib.hid (rpath_any l A cap _ hl1 hn.1)
  go_wp2_with fail
  refine HC.out.mono ?_
  rintro e w5 ⟨A5, c5, rfl, ho, hq⟩
  have hx5 := hbx.now hq
  have hz5 := hbz.now hq
  have hB5 := bel_then hB0 (by omega) hq
  have hsz5 := hq.size
  obtain ⟨hn5, hrd5⟩ := own_out (S := S) (g := w.heap.size) ho (by omega)
  have hrv5 : RvR w5 (Out2 S w5 w.heap.size) r := (hr.keep fun p hp => hB5.cell (hS _ hp)).more fun b hb => (by have hb' := hS b hb; exact ⟨Or.inl hb, by omega, by omega⟩)
  clear hbx hbz hq ho HC hl hl1 hr hB0 hS
  obtain ⟨y0, y1, y2, y3, y4, y5, y6, y7, y8, y9, y10, y11, y12, y13⟩ := blk14 hx5
  obtain ⟨z0, z1, z2, z3, z4, z5, z6, z7, z8, z9, z10, z11, z12, z13⟩ := blk14 hz5
  have yf := hx5.free
  have zf := hz5.free
  have HBL := Lib.hid (put14_blk (hz5.far (p := ⟨w.heap.size, 3, none⟩) (show w.heap.size + 1 ≠ w.heap.size by omega) (.slice A5 (pathF l).length c5)) (.string (bs r.r.name)) (.int .i64 r.r.ent) (.int .i64 r.r.ext) (.slice A5 (pathF l).length c5) (.slice r.A2 r.r.pts.length r.c2) (.slice r.A3 r.r.secs.length r.c3) (.int .i64 r.r.app) (.int .i64 r.r.len) (.slice r.A4 r.r.over.length r.c4) (.slice r.A5 r.r.opts.length r.c5) (.slice r.A6 r.r.osecs.length r.c6) (.slice r.A7 r.r.flk.length r.c7) (.slice r.A8 r.r.grd.length r.c8) (.slice r.A9 r.r.gap.length r.c9))
  have HRV : Hid (RvR (put14 (w5.setCell ⟨w.heap.size, 3, none⟩ (.slice A5 (pathF l).length c5)) (w.heap.size + 1) (.string (bs r.r.name)) (.int .i64 r.r.ent) (.int .i64 r.r.ext) (.slice A5 (pathF l).length c5) (.slice r.A2 r.r.pts.length r.c2) (.slice r.A3 r.r.secs.length r.c3) (.int .i64 r.r.app) (.int .i64 r.r.len) (.slice r.A4 r.r.over.length r.c4) (.slice r.A5 r.r.opts.length r.c5) (.slice r.A6 r.r.osecs.length r.c6) (.slice r.A7 r.r.flk.length r.c7) (.slice r.A8 r.r.grd.length r.c8) (.slice r.A9 r.r.gap.length r.c9)) (fun b => S b ∨ (w.heap.size ≤ b ∧ b < (put14 (w5.setCell ⟨w.heap.size, 3, none⟩ (.slice A5 (pathF l).length c5)) (w.heap.size + 1) (.string (bs r.r.name)) (.int .i64 r.r.ent) (.int .i64 r.r.ext) (.slice A5 (pathF l).length c5) (.slice r.A2 r.r.pts.length r.c2) (.slice r.A3 r.r.secs.length r.c3) (.int .i64 r.r.app) (.int .i64 r.r.len) (.slice r.A4 r.r.over.length r.c4) (.slice r.A5 r.r.opts.length r.c5) (.slice r.A6 r.r.osecs.length r.c6) (.slice r.A7 r.r.flk.length r.c7) (.slice r.A8 r.r.grd.length r.c8) (.slice r.A9 r.r.gap.length r.c9)).heap.size)) { r with r := { r.r with path := (pathF l) }, A1 := A5, c1 := c5 }) := Lib.hid ((hrv5.put1 A5 c5 (pathF l) hrd5 hn5).out (fun k h1 h2 => by rw [put14_far _ _ _ _ _ _ _ _ _ _ _ _ _ _ _ _ _ h2, Below.heap_setCell _ _ _ _ h1]) (by rw [put14_size]; simp [World.setCell]))
  have HBB := Lib.hid (put14_bel (hB5.setCell (p := ⟨w.heap.size, 3, none⟩) (Nat.le_refl _) (.slice A5 (pathF l).length c5)) (show w.heap.size ≤ w.heap.size + 1 by omega) (.string (bs r.r.name)) (.int .i64 r.r.ent) (.int .i64 r.r.ext) (.slice A5 (pathF l).length c5) (.slice r.A2 r.r.pts.length r.c2) (.slice r.A3 r.r.secs.length r.c3) (.int .i64 r.r.app) (.int .i64 r.r.len) (.slice r.A4 r.r.over.length r.c4) (.slice r.A5 r.r.opts.length r.c5) (.slice r.A6 r.r.osecs.length r.c6) (.slice r.A7 r.r.flk.length r.c7) (.slice r.A8 r.r.grd.length r.c8) (.slice r.A9 r.r.gap.length r.c9))
  clear hx5 hz5 hrv5 hrd5 hB5
  go_wp2_with fail
  refine bodyPost_ret (results_cell_row (P := Tryz.prog) rfl _ _ (w.heap.size + 1) 41 #[.string (bs r.r.name), .int .i64 r.r.ent, .int .i64 r.r.ext, .slice A5 (pathF l).length c5, .slice r.A2 r.r.pts.length r.c2, .slice r.A3 r.r.secs.length r.c3, .int .i64 r.r.app, .int .i64 r.r.len, .slice r.A4 r.r.over.length r.c4, .slice r.A5 r.r.opts.length r.c5, .slice r.A6 r.r.osecs.length r.c6, .slice r.A7 r.r.flk.length r.c7, .slice r.A8 r.r.grd.length r.c8, .slice r.A9 r.r.gap.length r.c9] (0, 0) _ (by rfl) HBL.out Tryz.underlying41 rfl (by kernel_rfl)) rfl ?_
  exact ⟨{ r with r := { r.r with path := (pathF l) }, A1 := A5, c1 := c5 }, HW.out.symm, rfl, HRV.out, HBB.out⟩
set_option maxRecDepth 100000 in
set_option maxHeartbeats 8000000 in
theorem rWith_5 (r : RouV) (l : List Int) (A : Option Addr) (cap : Nat) (w : World) (S : Nat → Prop) (hS : ∀ b, S b → b < w.heap.size) (hr : RvR w S r) (hl : RdS cI w S A l) (hn : l.length ≤ 100000 ∧ l.length ≤ cap) :
    Calls Tryz.prog 68 #[.agg #[.string (bs r.r.name), .int .i64 r.r.ent, .int .i64 r.r.ext, .slice r.A1 r.r.path.length r.c1, .slice r.A2 r.r.pts.length r.c2, .slice r.A3 r.r.secs.length r.c3, .int .i64 r.r.app, .int .i64 r.r.len, .slice r.A4 r.r.over.length r.c4, .slice r.A5 r.r.opts.length r.c5, .slice r.A6 r.r.osecs.length r.c6, .slice r.A7 r.r.flk.length r.c7, .slice r.A8 r.r.grd.length r.c8, .slice r.A9 r.r.gap.length r.c9], .string (bs pointsW), .slice A l.length cap] w (WithP w S (withF r.r pointsW l)) := by
  have HW : Hid (withF r.r pointsW l = { r.r with pts := (placesF l) }) := Lib.hid (by unfold withF; rw [if_neg (by decide)]; rw [if_pos rfl])
  obtain ⟨hbx, hbz, hB0, hz0⟩ := w2_all w r
  unfold W2r at hbx hbz hB0 hz0
  have hl1 := (hl.more hS : RdS cI w (Lt w) A l).now hB0
  unfold pointsW
  go_enter Tryz.func68, Tryz.ntmps68
  have HC := Lib.hid (rplaces_any l A cap _ hl1 hn.1)
  go_wp2_with fail
  refine HC.out.mono ?_
  rintro e w5 ⟨A5, c5, rfl, ho, hq⟩
  have hx5 := hbx.now hq
  have hz5 := hbz.now hq
  have hB5 := bel_then hB0 (by omega) hq
  have hsz5 := hq.size
  obtain ⟨hn5, hrd5⟩ := own_out (S := S) (g := w.heap.size) ho (by omega)
  have hrv5 : RvR w5 (Out2 S w5 w.heap.size) r := (hr.keep fun p hp => hB5.cell (hS _ hp)).more fun b hb => (by have hb' := hS b hb; exact ⟨Or.inl hb, by omega, by omega⟩)
  clear hbx hbz hq ho HC hl hl1 hr hB0 hS
  obtain ⟨y0, y1, y2, y3, y4, y5, y6, y7, y8, y9, y10, y11, y12, y13⟩ := blk14 hx5
  obtain ⟨z0, z1, z2, z3, z4, z5, z6, z7, z8, z9, z10, z11, z12, z13⟩ := blk14 hz5
  have yf := hx5.free
  have zf := hz5.free
  have HBL := Lib.hid (put14_blk (hz5.far (p := ⟨w.heap.size, 4, none⟩) (show w.heap.size + 1 ≠ w.heap.size by omega) (.slice A5 (placesF l).length c5)) (.string (bs r.r.name)) (.int .i64 r.r.ent) (.int .i64 r.r.ext) (.slice r.A1 r.r.path.length r.c1) (.slice A5 (placesF l).length c5) (.slice r.A3 r.r.secs.length r.c3) (.int .i64 r.r.app) (.int .i64 r.r.len) (.slice r.A4 r.r.over.length r.c4) (.slice r.A5 r.r.opts.length r.c5) (.slice r.A6 r.r.osecs.length r.c6) (.slice r.A7 r.r.flk.length r.c7) (.slice r.A8 r.r.grd.length r.c8) (.slice r.A9 r.r.gap.length r.c9))
  have HRV : Hid (RvR (put14 (w5.setCell ⟨w.heap.size, 4, none⟩ (.slice A5 (placesF l).length c5)) (w.heap.size + 1) (.string (bs r.r.name)) (.int .i64 r.r.ent) (.int .i64 r.r.ext) (.slice r.A1 r.r.path.length r.c1) (.slice A5 (placesF l).length c5) (.slice r.A3 r.r.secs.length r.c3) (.int .i64 r.r.app) (.int .i64 r.r.len) (.slice r.A4 r.r.over.length r.c4) (.slice r.A5 r.r.opts.length r.c5) (.slice r.A6 r.r.osecs.length r.c6) (.slice r.A7 r.r.flk.length r.c7) (.slice r.A8 r.r.grd.length r.c8) (.slice r.A9 r.r.gap.length r.c9)) (fun b => S b ∨ (w.heap.size ≤ b ∧ b < (put14 (w5.setCell ⟨w.heap.size, 4, none⟩ (.slice A5 (placesF l).length c5)) (w.heap.size + 1) (.string (bs r.r.name)) (.int .i64 r.r.ent) (.int .i64 r.r.ext) (.slice r.A1 r.r.path.length r.c1) (.slice A5 (placesF l).length c5) (.slice r.A3 r.r.secs.length r.c3) (.int .i64 r.r.app) (.int .i64 r.r.len) (.slice r.A4 r.r.over.length r.c4) (.slice r.A5 r.r.opts.length r.c5) (.slice r.A6 r.r.osecs.length r.c6) (.slice r.A7 r.r.flk.length r.c7) (.slice r.A8 r.r.grd.length r.c8) (.slice r.A9 r.r.gap.length r.c9)).heap.size)) { r with r := { r.r with pts := (placesF l) }, A2 := A5, c2 := c5 }) := Lib.hid ((hrv5.put2 A5 c5 (placesF l) hrd5 hn5).out (fun k h1 h2 => by rw [put14_far _ _ _ _ _ _ _ _ _ _ _ _ _ _ _ _ _ h2, Below.heap_setCell _ _ _ _ h1]) (by rw [put14_size]; simp [World.setCell]))
  have HBB := Lib.hid (put14_bel (hB5.setCell (p := ⟨w.heap.size, 4, none⟩) (Nat.le_refl _) (.slice A5 (placesF l).length c5)) (show w.heap.size ≤ w.heap.size + 1 by omega) (.string (bs r.r.name)) (.int .i64 r.r.ent) (.int .i64 r.r.ext) (.slice r.A1 r.r.path.length r.c1) (.slice A5 (placesF l).length c5) (.slice r.A3 r.r.secs.length r.c3) (.int .i64 r.r.app) (.int .i64 r.r.len) (.slice r.A4 r.r.over.length r.c4) (.slice r.A5 r.r.opts.length r.c5) (.slice r.A6 r.r.osecs.length r.c6) (.slice r.A7 r.r.flk.length r.c7) (.slice r.A8 r.r.grd.length r.c8) (.slice r.A9 r.r.gap.length r.c9))
  clear hx5 hz5 hrv5 hrd5 hB5
  go_wp2_with fail
  refine bodyPost_ret (results_cell_row (P := Tryz.prog) rfl _ _ (w.heap.size + 1) 41 #[.string (bs r.r.name), .int .i64 r.r.ent, .int .i64 r.r.ext, .slice r.A1 r.r.path.length r.c1, .slice A5 (placesF l).length c5, .slice r.A3 r.r.secs.length r.c3, .int .i64 r.r.app, .int .i64 r.r.len, .slice r.A4 r.r.over.length r.c4, .slice r.A5 r.r.opts.length r.c5, .slice r.A6 r.r.osecs.length r.c6, .slice r.A7 r.r.flk.length r.c7, .slice r.A8 r.r.grd.length r.c8, .slice r.A9 r.r.gap.length r.c9] (0, 0) _ (by rfl) HBL.out Tryz.underlying41 rfl (by kernel_rfl)) rfl ?_
  exact ⟨{ r with r := { r.r with pts := (placesF l) }, A2 := A5, c2 := c5 }, HW.out.symm, rfl, HRV.out, HBB.out⟩
set_option maxRecDepth 100000 in
set_option maxHeartbeats 8000000 in
theorem rWith_6 (r : RouV) (l : List Int) (A : Option Addr) (cap : Nat) (w : World) (S : Nat → Prop) (hS : ∀ b, S b → b < w.heap.size) (hr : RvR w S r) (hl : RdS cI w S A l) (hn : l.length ≤ 100000 ∧ l.length ≤ cap) :
    Calls Tryz.prog 68 #[.agg #[.string (bs r.r.name), .int .i64 r.r.ent, .int .i64 r.r.ext, .slice r.A1 r.r.path.length r.c1, .slice r.A2 r.r.pts.length r.c2, .slice r.A3 r.r.secs.length r.c3, .int .i64 r.r.app, .int .i64 r.r.len, .slice r.A4 r.r.over.length r.c4, .slice r.A5 r.r.opts.length r.c5, .slice r.A6 r.r.osecs.length r.c6, .slice r.A7 r.r.flk.length r.c7, .slice r.A8 r.r.grd.length r.c8, .slice r.A9 r.r.gap.length r.c9], .string (bs sectionsW), .slice A l.length cap] w (WithP w S (withF r.r sectionsW l)) := by
  have HW : Hid (withF r.r sectionsW l = { r.r with secs := l }) := Lib.hid (by unfold withF; rw [if_neg (by decide)]; rw [if_neg (by decide)]; rw [if_pos rfl])
  obtain ⟨hbx, hbz, hB0, hz0⟩ := w2_all w r
  unfold W2r at hbx hbz hB0 hz0
  have hl1 := (hl.more hS : RdS cI w (Lt w) A l).now hB0
  unfold sectionsW
  go_enter Tryz.func68, Tryz.ntmps68
  obtain ⟨W1, hW1⟩ : ∃ W, W = W2r w r := ⟨_, rfl⟩
  unfold W2r at hW1
  have HWW := Lib.hid hW1
  rw [← hW1] at hbx hbz hB0 hz0
  have hx5 := hbx
  have hz5 := hbz
  have hB5 := hB0
  have hn5 : l.length ≤ maxLen ∧ l.length ≤ cap := ⟨by unfold maxLen; omega, hn.2⟩
  have hrd5 : RdS cI W1 (Out2 S W1 w.heap.size) A l := (hl.keep fun p hp => hB5.cell (hS _ hp)).more fun b hb => (by have hb' := hS b hb; exact ⟨Or.inl hb, by omega, by omega⟩)
  have hrv5 : RvR W1 (Out2 S W1 w.heap.size) r := (hr.keep fun p hp => hB5.cell (hS _ hp)).more fun b hb => (by have hb' := hS b hb; exact ⟨Or.inl hb, by omega, by omega⟩)
  clear hl hl1 hr hB0 hS
  go_upto_region 2 with (fail)
  rw [← hW1]
  clear hW1 hbx hbz
  obtain ⟨y0, y1, y2, y3, y4, y5, y6, y7, y8, y9, y10, y11, y12, y13⟩ := blk14 hx5
  obtain ⟨z0, z1, z2, z3, z4, z5, z6, z7, z8, z9, z10, z11, z12, z13⟩ := blk14 hz5
  have yf := hx5.free
  have zf := hz5.free
  have HBL := Lib.hid (put14_blk (hz5.far (p := ⟨w.heap.size, 5, none⟩) (show w.heap.size + 1 ≠ w.heap.size by omega) (.slice A l.length cap)) (.string (bs r.r.name)) (.int .i64 r.r.ent) (.int .i64 r.r.ext) (.slice r.A1 r.r.path.length r.c1) (.slice r.A2 r.r.pts.length r.c2) (.slice A l.length cap) (.int .i64 r.r.app) (.int .i64 r.r.len) (.slice r.A4 r.r.over.length r.c4) (.slice r.A5 r.r.opts.length r.c5) (.slice r.A6 r.r.osecs.length r.c6) (.slice r.A7 r.r.flk.length r.c7) (.slice r.A8 r.r.grd.length r.c8) (.slice r.A9 r.r.gap.length r.c9))
  have HRV : Hid (RvR (put14 (W1.setCell ⟨w.heap.size, 5, none⟩ (.slice A l.length cap)) (w.heap.size + 1) (.string (bs r.r.name)) (.int .i64 r.r.ent) (.int .i64 r.r.ext) (.slice r.A1 r.r.path.length r.c1) (.slice r.A2 r.r.pts.length r.c2) (.slice A l.length cap) (.int .i64 r.r.app) (.int .i64 r.r.len) (.slice r.A4 r.r.over.length r.c4) (.slice r.A5 r.r.opts.length r.c5) (.slice r.A6 r.r.osecs.length r.c6) (.slice r.A7 r.r.flk.length r.c7) (.slice r.A8 r.r.grd.length r.c8) (.slice r.A9 r.r.gap.length r.c9)) (fun b => S b ∨ (w.heap.size ≤ b ∧ b < (put14 (W1.setCell ⟨w.heap.size, 5, none⟩ (.slice A l.length cap)) (w.heap.size + 1) (.string (bs r.r.name)) (.int .i64 r.r.ent) (.int .i64 r.r.ext) (.slice r.A1 r.r.path.length r.c1) (.slice r.A2 r.r.pts.length r.c2) (.slice A l.length cap) (.int .i64 r.r.app) (.int .i64 r.r.len) (.slice r.A4 r.r.over.length r.c4) (.slice r.A5 r.r.opts.length r.c5) (.slice r.A6 r.r.osecs.length r.c6) (.slice r.A7 r.r.flk.length r.c7) (.slice r.A8 r.r.grd.length r.c8) (.slice r.A9 r.r.gap.length r.c9)).heap.size)) { r with r := { r.r with secs := l }, A3 := A, c3 := cap }) := Lib.hid ((hrv5.put3 A cap l hrd5 hn5).out (fun k h1 h2 => by rw [put14_far _ _ _ _ _ _ _ _ _ _ _ _ _ _ _ _ _ h2, Below.heap_setCell _ _ _ _ h1]) (by rw [put14_size]; simp [World.setCell]))
  have HBB := Lib.hid (put14_bel (hB5.setCell (p := ⟨w.heap.size, 5, none⟩) (Nat.le_refl _) (.slice A l.length cap)) (show w.heap.size ≤ w.heap.size + 1 by omega) (.string (bs r.r.name)) (.int .i64 r.r.ent) (.int .i64 r.r.ext) (.slice r.A1 r.r.path.length r.c1) (.slice r.A2 r.r.pts.length r.c2) (.slice A l.length cap) (.int .i64 r.r.app) (.int .i64 r.r.len) (.slice r.A4 r.r.over.length r.c4) (.slice r.A5 r.r.opts.length r.c5) (.slice r.A6 r.r.osecs.length r.c6) (.slice r.A7 r.r.flk.length r.c7) (.slice r.A8 r.r.grd.length r.c8) (.slice r.A9 r.r.gap.length r.c9))
  clear hx5 hz5 hrv5 hrd5 hB5
  go_wp2_with fail
  refine bodyPost_ret (results_cell_row (P := Tryz.prog) rfl _ _ (w.heap.size + 1) 41 #[.string (bs r.r.name), .int .i64 r.r.ent, .int .i64 r.r.ext, .slice r.A1 r.r.path.length r.c1, .slice r.A2 r.r.pts.length r.c2, .slice A l.length cap, .int .i64 r.r.app, .int .i64 r.r.len, .slice r.A4 r.r.over.length r.c4, .slice r.A5 r.r.opts.length r.c5, .slice r.A6 r.r.osecs.length r.c6, .slice r.A7 r.r.flk.length r.c7, .slice r.A8 r.r.grd.length r.c8, .slice r.A9 r.r.gap.length r.c9] (0, 0) _ (by rfl) HBL.out Tryz.underlying41 rfl (by kernel_rfl)) rfl ?_
  exact ⟨{ r with r := { r.r with secs := l }, A3 := A, c3 := cap }, HW.out.symm, rfl, HRV.out, HBB.out⟩
set_option maxRecDepth 100000 in
set_option maxHeartbeats 8000000 in
theorem rWith_7 (r : RouV) (l : List Int) (A : Option Addr) (cap : Nat) (w : World) (S : Nat → Prop) (hS : ∀ b, S b → b < w.heap.size) (hr : RvR w S r) (hl : RdS cI w S A l) (hn : l.length ≤ 100000 ∧ l.length ≤ cap) :
    Calls Tryz.prog 68 #[.agg #[.string (bs r.r.name), .int .i64 r.r.ent, .int .i64 r.r.ext, .slice r.A1 r.r.path.length r.c1, .slice r.A2 r.r.pts.length r.c2, .slice r.A3 r.r.secs.length r.c3, .int .i64 r.r.app, .int .i64 r.r.len, .slice r.A4 r.r.over.length r.c4, .slice r.A5 r.r.opts.length r.c5, .slice r.A6 r.r.osecs.length r.c6, .slice r.A7 r.r.flk.length r.c7, .slice r.A8 r.r.grd.length r.c8, .slice r.A9 r.r.gap.length r.c9], .string (bs overW), .slice A l.length cap] w (WithP w S (withF r.r overW l)) := by
  have HW : Hid (withF r.r overW l = { r.r with over := (pathF l) }) := Lib.hid (by unfold withF; rw [if_neg (by decide)]; rw [if_neg (by decide)]; rw [if_neg (by decide)]; rw [if_pos rfl])
  obtain ⟨hbx, hbz, hB0, hz0⟩ := w2_all w r
  unfold W2r at hbx hbz hB0 hz0
  have hl1 := (hl.more hS : RdS cI w (Lt w) A l).now hB0
  unfold overW
  go_enter Tryz.func68, Tryz.ntmps68
  have HC := Lib.hid (rpath_any l A cap _ hl1 hn.1)
  go_wp2_with fail
  refine HC.out.mono ?_
  rintro e w5 ⟨A5, c5, rfl, ho, hq⟩
  have hx5 := hbx.now hq
  have hz5 := hbz.now hq
  have hB5 := bel_then hB0 (by omega) hq
  have hsz5 := hq.size
  obtain ⟨hn5, hrd5⟩ := own_out (S := S) (g := w.heap.size) ho (by omega)
  have hrv5 : RvR w5 (Out2 S w5 w.heap.size) r := (hr.keep fun p hp => hB5.cell (hS _ hp)).more fun b hb => (by have hb' := hS b hb; exact ⟨Or.inl hb, by omega, by omega⟩)
  clear hbx hbz hq ho HC hl hl1 hr hB0 hS
  obtain ⟨y0, y1, y2, y3, y4, y5, y6, y7, y8, y9, y10, y11, y12, y13⟩ := blk14 hx5
  obtain ⟨z0, z1, z2, z3, z4, z5, z6, z7, z8, z9, z10, z11, z12, z13⟩ := blk14 hz5
  have yf := hx5.free
  have zf := hz5.free
  have HBL := Lib.hid (put14_blk (hz5.far (p := ⟨w.heap.size, 8, none⟩) (show w.heap.size + 1 ≠ w.heap.size by omega) (.slice A5 (pathF l).length c5)) (.string (bs r.r.name)) (.int .i64 r.r.ent) (.int .i64 r.r.ext) (.slice r.A1 r.r.path.length r.c1) (.slice r.A2 r.r.pts.length r.c2) (.slice r.A3 r.r.secs.length r.c3) (.int .i64 r.r.app) (.int .i64 r.r.len) (.slice A5 (pathF l).length c5) (.slice r.A5 r.r.opts.length r.c5) (.slice r.A6 r.r.osecs.length r.c6) (.slice r.A7 r.r.flk.length r.c7) (.slice r.A8 r.r.grd.length r.c8) (.slice r.A9 r.r.gap.length r.c9))
  have HRV : Hid (RvR (put14 (w5.setCell ⟨w.heap.size, 8, none⟩ (.slice A5 (pathF l).length c5)) (w.heap.size + 1) (.string (bs r.r.name)) (.int .i64 r.r.ent) (.int .i64 r.r.ext) (.slice r.A1 r.r.path.length r.c1) (.slice r.A2 r.r.pts.length r.c2) (.slice r.A3 r.r.secs.length r.c3) (.int .i64 r.r.app) (.int .i64 r.r.len) (.slice A5 (pathF l).length c5) (.slice r.A5 r.r.opts.length r.c5) (.slice r.A6 r.r.osecs.length r.c6) (.slice r.A7 r.r.flk.length r.c7) (.slice r.A8 r.r.grd.length r.c8) (.slice r.A9 r.r.gap.length r.c9)) (fun b => S b ∨ (w.heap.size ≤ b ∧ b < (put14 (w5.setCell ⟨w.heap.size, 8, none⟩ (.slice A5 (pathF l).length c5)) (w.heap.size + 1) (.string (bs r.r.name)) (.int .i64 r.r.ent) (.int .i64 r.r.ext) (.slice r.A1 r.r.path.length r.c1) (.slice r.A2 r.r.pts.length r.c2) (.slice r.A3 r.r.secs.length r.c3) (.int .i64 r.r.app) (.int .i64 r.r.len) (.slice A5 (pathF l).length c5) (.slice r.A5 r.r.opts.length r.c5) (.slice r.A6 r.r.osecs.length r.c6) (.slice r.A7 r.r.flk.length r.c7) (.slice r.A8 r.r.grd.length r.c8) (.slice r.A9 r.r.gap.length r.c9)).heap.size)) { r with r := { r.r with over := (pathF l) }, A4 := A5, c4 := c5 }) := Lib.hid ((hrv5.put4 A5 c5 (pathF l) hrd5 hn5).out (fun k h1 h2 => by rw [put14_far _ _ _ _ _ _ _ _ _ _ _ _ _ _ _ _ _ h2, Below.heap_setCell _ _ _ _ h1]) (by rw [put14_size]; simp [World.setCell]))
  have HBB := Lib.hid (put14_bel (hB5.setCell (p := ⟨w.heap.size, 8, none⟩) (Nat.le_refl _) (.slice A5 (pathF l).length c5)) (show w.heap.size ≤ w.heap.size + 1 by omega) (.string (bs r.r.name)) (.int .i64 r.r.ent) (.int .i64 r.r.ext) (.slice r.A1 r.r.path.length r.c1) (.slice r.A2 r.r.pts.length r.c2) (.slice r.A3 r.r.secs.length r.c3) (.int .i64 r.r.app) (.int .i64 r.r.len) (.slice A5 (pathF l).length c5) (.slice r.A5 r.r.opts.length r.c5) (.slice r.A6 r.r.osecs.length r.c6) (.slice r.A7 r.r.flk.length r.c7) (.slice r.A8 r.r.grd.length r.c8) (.slice r.A9 r.r.gap.length r.c9))
  clear hx5 hz5 hrv5 hrd5 hB5
  go_wp2_with fail
  refine bodyPost_ret (results_cell_row (P := Tryz.prog) rfl _ _ (w.heap.size + 1) 41 #[.string (bs r.r.name), .int .i64 r.r.ent, .int .i64 r.r.ext, .slice r.A1 r.r.path.length r.c1, .slice r.A2 r.r.pts.length r.c2, .slice r.A3 r.r.secs.length r.c3, .int .i64 r.r.app, .int .i64 r.r.len, .slice A5 (pathF l).length c5, .slice r.A5 r.r.opts.length r.c5, .slice r.A6 r.r.osecs.length r.c6, .slice r.A7 r.r.flk.length r.c7, .slice r.A8 r.r.grd.length r.c8, .slice r.A9 r.r.gap.length r.c9] (0, 0) _ (by rfl) HBL.out Tryz.underlying41 rfl (by kernel_rfl)) rfl ?_
  exact ⟨{ r with r := { r.r with over := (pathF l) }, A4 := A5, c4 := c5 }, HW.out.symm, rfl, HRV.out, HBB.out⟩
set_option maxRecDepth 100000 in
set_option maxHeartbeats 8000000 in
theorem rWith_8 (r : RouV) (l : List Int) (A : Option Addr) (cap : Nat) (w : World) (S : Nat → Prop) (hS : ∀ b, S b → b < w.heap.size) (hr : RvR w S r) (hl : RdS cI w S A l) (hn : l.length ≤ 100000 ∧ l.length ≤ cap) :
    Calls Tryz.prog 68 #[.agg #[.string (bs r.r.name), .int .i64 r.r.ent, .int .i64 r.r.ext, .slice r.A1 r.r.path.length r.c1, .slice r.A2 r.r.pts.length r.c2, .slice r.A3 r.r.secs.length r.c3, .int .i64 r.r.app, .int .i64 r.r.len, .slice r.A4 r.r.over.length r.c4, .slice r.A5 r.r.opts.length r.c5, .slice r.A6 r.r.osecs.length r.c6, .slice r.A7 r.r.flk.length r.c7, .slice r.A8 r.r.grd.length r.c8, .slice r.A9 r.r.gap.length r.c9], .string (bs overpointsW), .slice A l.length cap] w (WithP w S (withF r.r overpointsW l)) := by
  have HW : Hid (withF r.r overpointsW l = { r.r with opts := (placesF l) }) := Lib.hid (by unfold withF; rw [if_neg (by decide)]; rw [if_neg (by decide)]; rw [if_neg (by decide)]; rw [if_neg (by decide)]; rw [if_pos rfl])
  obtain ⟨hbx, hbz, hB0, hz0⟩ := w2_all w r
  unfold W2r at hbx hbz hB0 hz0
  have hl1 := (hl.more hS : RdS cI w (Lt w) A l).now hB0
  unfold overpointsW
  go_enter Tryz.func68, Tryz.ntmps68
  have HC := Lib.hid (rplaces_any l A cap _ hl1 hn.1)
  go_wp2_with fail
  refine HC.out.mono ?_
  rintro e w5 ⟨A5, c5, rfl, ho, hq⟩
  have hx5 := hbx.now hq
  have hz5 := hbz.now hq
  have hB5 := bel_then hB0 (by omega) hq
  have hsz5 := hq.size
  obtain ⟨hn5, hrd5⟩ := own_out (S := S) (g := w.heap.size) ho (by omega)
  have hrv5 : RvR w5 (Out2 S w5 w.heap.size) r := (hr.keep fun p hp => hB5.cell (hS _ hp)).more fun b hb => (by have hb' := hS b hb; exact ⟨Or.inl hb, by omega, by omega⟩)
  clear hbx hbz hq ho HC hl hl1 hr hB0 hS
  obtain ⟨y0, y1, y2, y3, y4, y5, y6, y7, y8, y9, y10, y11, y12, y13⟩ := blk14 hx5
  obtain ⟨z0, z1, z2, z3, z4, z5, z6, z7, z8, z9, z10, z11, z12, z13⟩ := blk14 hz5
  have yf := hx5.free
  have zf := hz5.free
  have HBL := Lib.hid (put14_blk (hz5.far (p := ⟨w.heap.size, 9, none⟩) (show w.heap.size + 1 ≠ w.heap.size by omega) (.slice A5 (placesF l).length c5)) (.string (bs r.r.name)) (.int .i64 r.r.ent) (.int .i64 r.r.ext) (.slice r.A1 r.r.path.length r.c1) (.slice r.A2 r.r.pts.length r.c2) (.slice r.A3 r.r.secs.length r.c3) (.int .i64 r.r.app) (.int .i64 r.r.len) (.slice r.A4 r.r.over.length r.c4) (.slice A5 (placesF l).length c5) (.slice r.A6 r.r.osecs.length r.c6) (.slice r.A7 r.r.flk.length r.c7) (.slice r.A8 r.r.grd.length r.c8) (.slice r.A9 r.r.gap.length r.c9))
  have HRV : Hid (RvR (put14 (w5.setCell ⟨w.heap.size, 9, none⟩ (.slice A5 (placesF l).length c5)) (w.heap.size + 1) (.string (bs r.r.name)) (.int .i64 r.r.ent) (.int .i64 r.r.ext) (.slice r.A1 r.r.path.length r.c1) (.slice r.A2 r.r.pts.length r.c2) (.slice r.A3 r.r.secs.length r.c3) (.int .i64 r.r.app) (.int .i64 r.r.len) (.slice r.A4 r.r.over.length r.c4) (.slice A5 (placesF l).length c5) (.slice r.A6 r.r.osecs.length r.c6) (.slice r.A7 r.r.flk.length r.c7) (.slice r.A8 r.r.grd.length r.c8) (.slice r.A9 r.r.gap.length r.c9)) (fun b => S b ∨ (w.heap.size ≤ b ∧ b < (put14 (w5.setCell ⟨w.heap.size, 9, none⟩ (.slice A5 (placesF l).length c5)) (w.heap.size + 1) (.string (bs r.r.name)) (.int .i64 r.r.ent) (.int .i64 r.r.ext) (.slice r.A1 r.r.path.length r.c1) (.slice r.A2 r.r.pts.length r.c2) (.slice r.A3 r.r.secs.length r.c3) (.int .i64 r.r.app) (.int .i64 r.r.len) (.slice r.A4 r.r.over.length r.c4) (.slice A5 (placesF l).length c5) (.slice r.A6 r.r.osecs.length r.c6) (.slice r.A7 r.r.flk.length r.c7) (.slice r.A8 r.r.grd.length r.c8) (.slice r.A9 r.r.gap.length r.c9)).heap.size)) { r with r := { r.r with opts := (placesF l) }, A5 := A5, c5 := c5 }) := Lib.hid ((hrv5.put5 A5 c5 (placesF l) hrd5 hn5).out (fun k h1 h2 => by rw [put14_far _ _ _ _ _ _ _ _ _ _ _ _ _ _ _ _ _ h2, Below.heap_setCell _ _ _ _ h1]) (by rw [put14_size]; simp [World.setCell]))
  have HBB := Lib.hid (put14_bel (hB5.setCell (p := ⟨w.heap.size, 9, none⟩) (Nat.le_refl _) (.slice A5 (placesF l).length c5)) (show w.heap.size ≤ w.heap.size + 1 by omega) (.string (bs r.r.name)) (.int .i64 r.r.ent) (.int .i64 r.r.ext) (.slice r.A1 r.r.path.length r.c1) (.slice r.A2 r.r.pts.length r.c2) (.slice r.A3 r.r.secs.length r.c3) (.int .i64 r.r.app) (.int .i64 r.r.len) (.slice r.A4 r.r.over.length r.c4) (.slice A5 (placesF l).length c5) (.slice r.A6 r.r.osecs.length r.c6) (.slice r.A7 r.r.flk.length r.c7) (.slice r.A8 r.r.grd.length r.c8) (.slice r.A9 r.r.gap.length r.c9))
  clear hx5 hz5 hrv5 hrd5 hB5
  go_wp2_with fail
  refine bodyPost_ret (results_cell_row (P := Tryz.prog) rfl _ _ (w.heap.size + 1) 41 #[.string (bs r.r.name), .int .i64 r.r.ent, .int .i64 r.r.ext, .slice r.A1 r.r.path.length r.c1, .slice r.A2 r.r.pts.length r.c2, .slice r.A3 r.r.secs.length r.c3, .int .i64 r.r.app, .int .i64 r.r.len, .slice r.A4 r.r.over.length r.c4, .slice A5 (placesF l).length c5, .slice r.A6 r.r.osecs.length r.c6, .slice r.A7 r.r.flk.length r.c7, .slice r.A8 r.r.grd.length r.c8, .slice r.A9 r.r.gap.length r.c9] (0, 0) _ (by rfl) HBL.out Tryz.underlying41 rfl (by kernel_rfl)) rfl ?_
  exact ⟨{ r with r := { r.r with opts := (placesF l) }, A5 := A5, c5 := c5 }, HW.out.symm, rfl, HRV.out, HBB.out⟩
set_option maxRecDepth 100000 in
set_option maxHeartbeats 8000000 in
theorem rWith_9 (r : RouV) (l : List Int) (A : Option Addr) (cap : Nat) (w : World) (S : Nat → Prop) (hS : ∀ b, S b → b < w.heap.size) (hr : RvR w S r) (hl : RdS cI w S A l) (hn : l.length ≤ 100000 ∧ l.length ≤ cap) :
    Calls Tryz.prog 68 #[.agg #[.string (bs r.r.name), .int .i64 r.r.ent, .int .i64 r.r.ext, .slice r.A1 r.r.path.length r.c1, .slice r.A2 r.r.pts.length r.c2, .slice r.A3 r.r.secs.length r.c3, .int .i64 r.r.app, .int .i64 r.r.len, .slice r.A4 r.r.over.length r.c4, .slice r.A5 r.r.opts.length r.c5, .slice r.A6 r.r.osecs.length r.c6, .slice r.A7 r.r.flk.length r.c7, .slice r.A8 r.r.grd.length r.c8, .slice r.A9 r.r.gap.length r.c9], .string (bs oversectionsW), .slice A l.length cap] w (WithP w S (withF r.r oversectionsW l)) := by
  have HW : Hid (withF r.r oversectionsW l = { r.r with osecs := l }) := Lib.hid (by unfold withF; rw [if_neg (by decide)]; rw [if_neg (by decide)]; rw [if_neg (by decide)]; rw [if_neg (by decide)]; rw [if_neg (by decide)]; rw [if_pos rfl])
  obtain ⟨hbx, hbz, hB0, hz0⟩ := w2_all w r
  unfold W2r at hbx hbz hB0 hz0
  have hl1 := (hl.more hS : RdS cI w (Lt w) A l).now hB0
  unfold oversectionsW
  go_enter Tryz.func68, Tryz.ntmps68
  obtain ⟨W1, hW1⟩ : ∃ W, W = W2r w r := ⟨_, rfl⟩
  unfold W2r at hW1
  have HWW := Lib.hid hW1
  rw [← hW1] at hbx hbz hB0 hz0
  have hx5 := hbx
  have hz5 := hbz
  have hB5 := hB0
  have hn5 : l.length ≤ maxLen ∧ l.length ≤ cap := ⟨by unfold maxLen; omega, hn.2⟩
  have hrd5 : RdS cI W1 (Out2 S W1 w.heap.size) A l := (hl.keep fun p hp => hB5.cell (hS _ hp)).more fun b hb => (by have hb' := hS b hb; exact ⟨Or.inl hb, by omega, by omega⟩)
  have hrv5 : RvR W1 (Out2 S W1 w.heap.size) r := (hr.keep fun p hp => hB5.cell (hS _ hp)).more fun b hb => (by have hb' := hS b hb; exact ⟨Or.inl hb, by omega, by omega⟩)
  clear hl hl1 hr hB0 hS
  go_upto_region 2 with (fail)
  rw [← hW1]
  clear hW1 hbx hbz
  obtain ⟨y0, y1, y2, y3, y4, y5, y6, y7, y8, y9, y10, y11, y12, y13⟩ := blk14 hx5
  obtain ⟨z0, z1, z2, z3, z4, z5, z6, z7, z8, z9, z10, z11, z12, z13⟩ := blk14 hz5
  have yf := hx5.free
  have zf := hz5.free
  have HBL := Lib.hid (put14_blk (hz5.far (p := ⟨w.heap.size, 10, none⟩) (show w.heap.size + 1 ≠ w.heap.size by omega) (.slice A l.length cap)) (.string (bs r.r.name)) (.int .i64 r.r.ent) (.int .i64 r.r.ext) (.slice r.A1 r.r.path.length r.c1) (.slice r.A2 r.r.pts.length r.c2) (.slice r.A3 r.r.secs.length r.c3) (.int .i64 r.r.app) (.int .i64 r.r.len) (.slice r.A4 r.r.over.length r.c4) (.slice r.A5 r.r.opts.length r.c5) (.slice A l.length cap) (.slice r.A7 r.r.flk.length r.c7) (.slice r.A8 r.r.grd.length r.c8) (.slice r.A9 r.r.gap.length r.c9))
  have HRV : Hid (RvR (put14 (W1.setCell ⟨w.heap.size, 10, none⟩ (.slice A l.length cap)) (w.heap.size + 1) (.string (bs r.r.name)) (.int .i64 r.r.ent) (.int .i64 r.r.ext) (.slice r.A1 r.r.path.length r.c1) (.slice r.A2 r.r.pts.length r.c2) (.slice r.A3 r.r.secs.length r.c3) (.int .i64 r.r.app) (.int .i64 r.r.len) (.slice r.A4 r.r.over.length r.c4) (.slice r.A5 r.r.opts.length r.c5) (.slice A l.length cap) (.slice r.A7 r.r.flk.length r.c7) (.slice r.A8 r.r.grd.length r.c8) (.slice r.A9 r.r.gap.length r.c9)) (fun b => S b ∨ (w.heap.size ≤ b ∧ b < (put14 (W1.setCell ⟨w.heap.size, 10, none⟩ (.slice A l.length cap)) (w.heap.size + 1) (.string (bs r.r.name)) (.int .i64 r.r.ent) (.int .i64 r.r.ext) (.slice r.A1 r.r.path.length r.c1) (.slice r.A2 r.r.pts.length r.c2) (.slice r.A3 r.r.secs.length r.c3) (.int .i64 r.r.app) (.int .i64 r.r.len) (.slice r.A4 r.r.over.length r.c4) (.slice r.A5 r.r.opts.length r.c5) (.slice A l.length cap) (.slice r.A7 r.r.flk.length r.c7) (.slice r.A8 r.r.grd.length r.c8) (.slice r.A9 r.r.gap.length r.c9)).heap.size)) { r with r := { r.r with osecs := l }, A6 := A, c6 := cap }) := Lib.hid ((hrv5.put6 A cap l hrd5 hn5).out (fun k h1 h2 => by rw [put14_far _ _ _ _ _ _ _ _ _ _ _ _ _ _ _ _ _ h2, Below.heap_setCell _ _ _ _ h1]) (by rw [put14_size]; simp [World.setCell]))
  have HBB := Lib.hid (put14_bel (hB5.setCell (p := ⟨w.heap.size, 10, none⟩) (Nat.le_refl _) (.slice A l.length cap)) (show w.heap.size ≤ w.heap.size + 1 by omega) (.string (bs r.r.name)) (.int .i64 r.r.ent) (.int .i64 r.r.ext) (.slice r.A1 r.r.path.length r.c1) (.slice r.A2 r.r.pts.length r.c2) (.slice r.A3 r.r.secs.length r.c3) (.int .i64 r.r.app) (.int .i64 r.r.len) (.slice r.A4 r.r.over.length r.c4) (.slice r.A5 r.r.opts.length r.c5) (.slice A l.length cap) (.slice r.A7 r.r.flk.length r.c7) (.slice r.A8 r.r.grd.length r.c8) (.slice r.A9 r.r.gap.length r.c9))
  clear hx5 hz5 hrv5 hrd5 hB5
  go_wp2_with fail
  refine bodyPost_ret (results_cell_row (P := Tryz.prog) rfl _ _ (w.heap.size + 1) 41 #[.string (bs r.r.name), .int .i64 r.r.ent, .int .i64 r.r.ext, .slice r.A1 r.r.path.length r.c1, .slice r.A2 r.r.pts.length r.c2, .slice r.A3 r.r.secs.length r.c3, .int .i64 r.r.app, .int .i64 r.r.len, .slice r.A4 r.r.over.length r.c4, .slice r.A5 r.r.opts.length r.c5, .slice A l.length cap, .slice r.A7 r.r.flk.length r.c7, .slice r.A8 r.r.grd.length r.c8, .slice r.A9 r.r.gap.length r.c9] (0, 0) _ (by rfl) HBL.out Tryz.underlying41 rfl (by kernel_rfl)) rfl ?_
  exact ⟨{ r with r := { r.r with osecs := l }, A6 := A, c6 := cap }, HW.out.symm, rfl, HRV.out, HBB.out⟩
set_option maxRecDepth 100000 in
set_option maxHeartbeats 8000000 in
theorem rWith_10 (r : RouV) (l : List Int) (A : Option Addr) (cap : Nat) (w : World) (S : Nat → Prop) (hS : ∀ b, S b → b < w.heap.size) (hr : RvR w S r) (hl : RdS cI w S A l) (hn : l.length ≤ 100000 ∧ l.length ≤ cap) :
    Calls Tryz.prog 68 #[.agg #[.string (bs r.r.name), .int .i64 r.r.ent, .int .i64 r.r.ext, .slice r.A1 r.r.path.length r.c1, .slice r.A2 r.r.pts.length r.c2, .slice r.A3 r.r.secs.length r.c3, .int .i64 r.r.app, .int .i64 r.r.len, .slice r.A4 r.r.over.length r.c4, .slice r.A5 r.r.opts.length r.c5, .slice r.A6 r.r.osecs.length r.c6, .slice r.A7 r.r.flk.length r.c7, .slice r.A8 r.r.grd.length r.c8, .slice r.A9 r.r.gap.length r.c9], .string (bs flankW), .slice A l.length cap] w (WithP w S (withF r.r flankW l)) := by
  have HW : Hid (withF r.r flankW l = { r.r with flk := (placesF l) }) := Lib.hid (by unfold withF; rw [if_neg (by decide)]; rw [if_neg (by decide)]; rw [if_neg (by decide)]; rw [if_neg (by decide)]; rw [if_neg (by decide)]; rw [if_neg (by decide)]; rw [if_pos rfl])
  obtain ⟨hbx, hbz, hB0, hz0⟩ := w2_all w r
  unfold W2r at hbx hbz hB0 hz0
  have hl1 := (hl.more hS : RdS cI w (Lt w) A l).now hB0
  unfold flankW
  go_enter Tryz.func68, Tryz.ntmps68
  have HC := Lib.hid (rplaces_any l A cap _ hl1 hn.1)
  go_wp2_with fail
  refine HC.out.mono ?_
  rintro e w5 ⟨A5, c5, rfl, ho, hq⟩
  have hx5 := hbx.now hq
  have hz5 := hbz.now hq
  have hB5 := bel_then hB0 (by omega) hq
  have hsz5 := hq.size
  obtain ⟨hn5, hrd5⟩ := own_out (S := S) (g := w.heap.size) ho (by omega)
  have hrv5 : RvR w5 (Out2 S w5 w.heap.size) r := (hr.keep fun p hp => hB5.cell (hS _ hp)).more fun b hb => (by have hb' := hS b hb; exact ⟨Or.inl hb, by omega, by omega⟩)
  clear hbx hbz hq ho HC hl hl1 hr hB0 hS
  obtain ⟨y0, y1, y2, y3, y4, y5, y6, y7, y8, y9, y10, y11, y12, y13⟩ := blk14 hx5
  obtain ⟨z0, z1, z2, z3, z4, z5, z6, z7, z8, z9, z10, z11, z12, z13⟩ := blk14 hz5
  have yf := hx5.free
  have zf := hz5.free
  have HBL := Lib.hid (put14_blk (hz5.far (p := ⟨w.heap.size, 11, none⟩) (show w.heap.size + 1 ≠ w.heap.size by omega) (.slice A5 (placesF l).length c5)) (.string (bs r.r.name)) (.int .i64 r.r.ent) (.int .i64 r.r.ext) (.slice r.A1 r.r.path.length r.c1) (.slice r.A2 r.r.pts.length r.c2) (.slice r.A3 r.r.secs.length r.c3) (.int .i64 r.r.app) (.int .i64 r.r.len) (.slice r.A4 r.r.over.length r.c4) (.slice r.A5 r.r.opts.length r.c5) (.slice r.A6 r.r.osecs.length r.c6) (.slice A5 (placesF l).length c5) (.slice r.A8 r.r.grd.length r.c8) (.slice r.A9 r.r.gap.length r.c9))
  have HRV : Hid (RvR (put14 (w5.setCell ⟨w.heap.size, 11, none⟩ (.slice A5 (placesF l).length c5)) (w.heap.size + 1) (.string (bs r.r.name)) (.int .i64 r.r.ent) (.int .i64 r.r.ext) (.slice r.A1 r.r.path.length r.c1) (.slice r.A2 r.r.pts.length r.c2) (.slice r.A3 r.r.secs.length r.c3) (.int .i64 r.r.app) (.int .i64 r.r.len) (.slice r.A4 r.r.over.length r.c4) (.slice r.A5 r.r.opts.length r.c5) (.slice r.A6 r.r.osecs.length r.c6) (.slice A5 (placesF l).length c5) (.slice r.A8 r.r.grd.length r.c8) (.slice r.A9 r.r.gap.length r.c9)) (fun b => S b ∨ (w.heap.size ≤ b ∧ b < (put14 (w5.setCell ⟨w.heap.size, 11, none⟩ (.slice A5 (placesF l).length c5)) (w.heap.size + 1) (.string (bs r.r.name)) (.int .i64 r.r.ent) (.int .i64 r.r.ext) (.slice r.A1 r.r.path.length r.c1) (.slice r.A2 r.r.pts.length r.c2) (.slice r.A3 r.r.secs.length r.c3) (.int .i64 r.r.app) (.int .i64 r.r.len) (.slice r.A4 r.r.over.length r.c4) (.slice r.A5 r.r.opts.length r.c5) (.slice r.A6 r.r.osecs.length r.c6) (.slice A5 (placesF l).length c5) (.slice r.A8 r.r.grd.length r.c8) (.slice r.A9 r.r.gap.length r.c9)).heap.size)) { r with r := { r.r with flk := (placesF l) }, A7 := A5, c7 := c5 }) := Lib.hid ((hrv5.put7 A5 c5 (placesF l) hrd5 hn5).out (fun k h1 h2 => by rw [put14_far _ _ _ _ _ _ _ _ _ _ _ _ _ _ _ _ _ h2, Below.heap_setCell _ _ _ _ h1]) (by rw [put14_size]; simp [World.setCell]))
  have HBB := Lib.hid (put14_bel (hB5.setCell (p := ⟨w.heap.size, 11, none⟩) (Nat.le_refl _) (.slice A5 (placesF l).length c5)) (show w.heap.size ≤ w.heap.size + 1 by omega) (.string (bs r.r.name)) (.int .i64 r.r.ent) (.int .i64 r.r.ext) (.slice r.A1 r.r.path.length r.c1) (.slice r.A2 r.r.pts.length r.c2) (.slice r.A3 r.r.secs.length r.c3) (.int .i64 r.r.app) (.int .i64 r.r.len) (.slice r.A4 r.r.over.length r.c4) (.slice r.A5 r.r.opts.length r.c5) (.slice r.A6 r.r.osecs.length r.c6) (.slice A5 (placesF l).length c5) (.slice r.A8 r.r.grd.length r.c8) (.slice r.A9 r.r.gap.length r.c9))
  clear hx5 hz5 hrv5 hrd5 hB5
  go_wp2_with fail
  refine bodyPost_ret (results_cell_row (P := Tryz.prog) rfl _ _ (w.heap.size + 1) 41 #[.string (bs r.r.name), .int .i64 r.r.ent, .int .i64 r.r.ext, .slice r.A1 r.r.path.length r.c1, .slice r.A2 r.r.pts.length r.c2, .slice r.A3 r.r.secs.length r.c3, .int .i64 r.r.app, .int .i64 r.r.len, .slice r.A4 r.r.over.length r.c4, .slice r.A5 r.r.opts.length r.c5, .slice r.A6 r.r.osecs.length r.c6, .slice A5 (placesF l).length c5, .slice r.A8 r.r.grd.length r.c8, .slice r.A9 r.r.gap.length r.c9] (0, 0) _ (by rfl) HBL.out Tryz.underlying41 rfl (by kernel_rfl)) rfl ?_
  exact ⟨{ r with r := { r.r with flk := (placesF l) }, A7 := A5, c7 := c5 }, HW.out.symm, rfl, HRV.out, HBB.out⟩
set_option maxRecDepth 100000 in
set_option maxHeartbeats 8000000 in
theorem rWith_11 (r : RouV) (l : List Int) (A : Option Addr) (cap : Nat) (w : World) (S : Nat → Prop) (hS : ∀ b, S b → b < w.heap.size) (hr : RvR w S r) (hl : RdS cI w S A l) (hn : l.length ≤ 100000 ∧ l.length ≤ cap) :
    Calls Tryz.prog 68 #[.agg #[.string (bs r.r.name), .int .i64 r.r.ent, .int .i64 r.r.ext, .slice r.A1 r.r.path.length r.c1, .slice r.A2 r.r.pts.length r.c2, .slice r.A3 r.r.secs.length r.c3, .int .i64 r.r.app, .int .i64 r.r.len, .slice r.A4 r.r.over.length r.c4, .slice r.A5 r.r.opts.length r.c5, .slice r.A6 r.r.osecs.length r.c6, .slice r.A7 r.r.flk.length r.c7, .slice r.A8 r.r.grd.length r.c8, .slice r.A9 r.r.gap.length r.c9], .string (bs guardsW), .slice A l.length cap] w (WithP w S (withF r.r guardsW l)) := by
  have HW : Hid (withF r.r guardsW l = { r.r with grd := l }) := Lib.hid (by unfold withF; rw [if_neg (by decide)]; rw [if_neg (by decide)]; rw [if_neg (by decide)]; rw [if_neg (by decide)]; rw [if_neg (by decide)]; rw [if_neg (by decide)]; rw [if_neg (by decide)]; rw [if_pos rfl])
  obtain ⟨hbx, hbz, hB0, hz0⟩ := w2_all w r
  unfold W2r at hbx hbz hB0 hz0
  have hl1 := (hl.more hS : RdS cI w (Lt w) A l).now hB0
  unfold guardsW
  go_enter Tryz.func68, Tryz.ntmps68
  obtain ⟨W1, hW1⟩ : ∃ W, W = W2r w r := ⟨_, rfl⟩
  unfold W2r at hW1
  have HWW := Lib.hid hW1
  rw [← hW1] at hbx hbz hB0 hz0
  have hx5 := hbx
  have hz5 := hbz
  have hB5 := hB0
  have hn5 : l.length ≤ maxLen ∧ l.length ≤ cap := ⟨by unfold maxLen; omega, hn.2⟩
  have hrd5 : RdS cI W1 (Out2 S W1 w.heap.size) A l := (hl.keep fun p hp => hB5.cell (hS _ hp)).more fun b hb => (by have hb' := hS b hb; exact ⟨Or.inl hb, by omega, by omega⟩)
  have hrv5 : RvR W1 (Out2 S W1 w.heap.size) r := (hr.keep fun p hp => hB5.cell (hS _ hp)).more fun b hb => (by have hb' := hS b hb; exact ⟨Or.inl hb, by omega, by omega⟩)
  clear hl hl1 hr hB0 hS
  go_upto_region 2 with (fail)
  rw [← hW1]
  clear hW1 hbx hbz
  obtain ⟨y0, y1, y2, y3, y4, y5, y6, y7, y8, y9, y10, y11, y12, y13⟩ := blk14 hx5
  obtain ⟨z0, z1, z2, z3, z4, z5, z6, z7, z8, z9, z10, z11, z12, z13⟩ := blk14 hz5
  have yf := hx5.free
  have zf := hz5.free
  have HBL := Lib.hid (put14_blk (hz5.far (p := ⟨w.heap.size, 12, none⟩) (show w.heap.size + 1 ≠ w.heap.size by omega) (.slice A l.length cap)) (.string (bs r.r.name)) (.int .i64 r.r.ent) (.int .i64 r.r.ext) (.slice r.A1 r.r.path.length r.c1) (.slice r.A2 r.r.pts.length r.c2) (.slice r.A3 r.r.secs.length r.c3) (.int .i64 r.r.app) (.int .i64 r.r.len) (.slice r.A4 r.r.over.length r.c4) (.slice r.A5 r.r.opts.length r.c5) (.slice r.A6 r.r.osecs.length r.c6) (.slice r.A7 r.r.flk.length r.c7) (.slice A l.length cap) (.slice r.A9 r.r.gap.length r.c9))
  have HRV : Hid (RvR (put14 (W1.setCell ⟨w.heap.size, 12, none⟩ (.slice A l.length cap)) (w.heap.size + 1) (.string (bs r.r.name)) (.int .i64 r.r.ent) (.int .i64 r.r.ext) (.slice r.A1 r.r.path.length r.c1) (.slice r.A2 r.r.pts.length r.c2) (.slice r.A3 r.r.secs.length r.c3) (.int .i64 r.r.app) (.int .i64 r.r.len) (.slice r.A4 r.r.over.length r.c4) (.slice r.A5 r.r.opts.length r.c5) (.slice r.A6 r.r.osecs.length r.c6) (.slice r.A7 r.r.flk.length r.c7) (.slice A l.length cap) (.slice r.A9 r.r.gap.length r.c9)) (fun b => S b ∨ (w.heap.size ≤ b ∧ b < (put14 (W1.setCell ⟨w.heap.size, 12, none⟩ (.slice A l.length cap)) (w.heap.size + 1) (.string (bs r.r.name)) (.int .i64 r.r.ent) (.int .i64 r.r.ext) (.slice r.A1 r.r.path.length r.c1) (.slice r.A2 r.r.pts.length r.c2) (.slice r.A3 r.r.secs.length r.c3) (.int .i64 r.r.app) (.int .i64 r.r.len) (.slice r.A4 r.r.over.length r.c4) (.slice r.A5 r.r.opts.length r.c5) (.slice r.A6 r.r.osecs.length r.c6) (.slice r.A7 r.r.flk.length r.c7) (.slice A l.length cap) (.slice r.A9 r.r.gap.length r.c9)).heap.size)) { r with r := { r.r with grd := l }, A8 := A, c8 := cap }) := Lib.hid ((hrv5.put8 A cap l hrd5 hn5).out (fun k h1 h2 => by rw [put14_far _ _ _ _ _ _ _ _ _ _ _ _ _ _ _ _ _ h2, Below.heap_setCell _ _ _ _ h1]) (by rw [put14_size]; simp [World.setCell]))
  have HBB := Lib.hid (put14_bel (hB5.setCell (p := ⟨w.heap.size, 12, none⟩) (Nat.le_refl _) (.slice A l.length cap)) (show w.heap.size ≤ w.heap.size + 1 by omega) (.string (bs r.r.name)) (.int .i64 r.r.ent) (.int .i64 r.r.ext) (.slice r.A1 r.r.path.length r.c1) (.slice r.A2 r.r.pts.length r.c2) (.slice r.A3 r.r.secs.length r.c3) (.int .i64 r.r.app) (.int .i64 r.r.len) (.slice r.A4 r.r.over.length r.c4) (.slice r.A5 r.r.opts.length r.c5) (.slice r.A6 r.r.osecs.length r.c6) (.slice r.A7 r.r.flk.length r.c7) (.slice A l.length cap) (.slice r.A9 r.r.gap.length r.c9))
  clear hx5 hz5 hrv5 hrd5 hB5
  go_wp2_with fail
  refine bodyPost_ret (results_cell_row (P := Tryz.prog) rfl _ _ (w.heap.size + 1) 41 #[.string (bs r.r.name), .int .i64 r.r.ent, .int .i64 r.r.ext, .slice r.A1 r.r.path.length r.c1, .slice r.A2 r.r.pts.length r.c2, .slice r.A3 r.r.secs.length r.c3, .int .i64 r.r.app, .int .i64 r.r.len, .slice r.A4 r.r.over.length r.c4, .slice r.A5 r.r.opts.length r.c5, .slice r.A6 r.r.osecs.length r.c6, .slice r.A7 r.r.flk.length r.c7, .slice A l.length cap, .slice r.A9 r.r.gap.length r.c9] (0, 0) _ (by rfl) HBL.out Tryz.underlying41 rfl (by kernel_rfl)) rfl ?_
  exact ⟨{ r with r := { r.r with grd := l }, A8 := A, c8 := cap }, HW.out.symm, rfl, HRV.out, HBB.out⟩
set_option maxRecDepth 100000 in
set_option maxHeartbeats 8000000 in
theorem rWith_12 (r : RouV) (l : List Int) (A : Option Addr) (cap : Nat) (w : World) (S : Nat → Prop) (hS : ∀ b, S b → b < w.heap.size) (hr : RvR w S r) (hl : RdS cI w S A l) (hn : l.length ≤ 100000 ∧ l.length ≤ cap) :
    Calls Tryz.prog 68 #[.agg #[.string (bs r.r.name), .int .i64 r.r.ent, .int .i64 r.r.ext, .slice r.A1 r.r.path.length r.c1, .slice r.A2 r.r.pts.length r.c2, .slice r.A3 r.r.secs.length r.c3, .int .i64 r.r.app, .int .i64 r.r.len, .slice r.A4 r.r.over.length r.c4, .slice r.A5 r.r.opts.length r.c5, .slice r.A6 r.r.osecs.length r.c6, .slice r.A7 r.r.flk.length r.c7, .slice r.A8 r.r.grd.length r.c8, .slice r.A9 r.r.gap.length r.c9], .string (bs gapsW), .slice A l.length cap] w (WithP w S (withF r.r gapsW l)) := by
  have HW : Hid (withF r.r gapsW l = { r.r with gap := (gapsF l) }) := Lib.hid (by unfold withF; rw [if_neg (by decide)]; rw [if_neg (by decide)]; rw [if_neg (by decide)]; rw [if_neg (by decide)]; rw [if_neg (by decide)]; rw [if_neg (by decide)]; rw [if_neg (by decide)]; rw [if_neg (by decide)]; rw [if_pos rfl])
  obtain ⟨hbx, hbz, hB0, hz0⟩ := w2_all w r
  unfold W2r at hbx hbz hB0 hz0
  have hl1 := (hl.more hS : RdS cI w (Lt w) A l).now hB0
  unfold gapsW
  go_enter Tryz.func68, Tryz.ntmps68
  have HC := Lib.hid (rgaps_any l A cap _ hl1 hn.1)
  go_wp2_with fail
  refine HC.out.mono ?_
  rintro e w5 ⟨A5, c5, rfl, ho, hq⟩
  have hx5 := hbx.now hq
  have hz5 := hbz.now hq
  have hB5 := bel_then hB0 (by omega) hq
  have hsz5 := hq.size
  obtain ⟨hn5, hrd5⟩ := own_out (S := S) (g := w.heap.size) ho (by omega)
  have hrv5 : RvR w5 (Out2 S w5 w.heap.size) r := (hr.keep fun p hp => hB5.cell (hS _ hp)).more fun b hb => (by have hb' := hS b hb; exact ⟨Or.inl hb, by omega, by omega⟩)
  clear hbx hbz hq ho HC hl hl1 hr hB0 hS
  obtain ⟨y0, y1, y2, y3, y4, y5, y6, y7, y8, y9, y10, y11, y12, y13⟩ := blk14 hx5
  obtain ⟨z0, z1, z2, z3, z4, z5, z6, z7, z8, z9, z10, z11, z12, z13⟩ := blk14 hz5
  have yf := hx5.free
  have zf := hz5.free
  have HBL := Lib.hid (put14_blk (hz5.far (p := ⟨w.heap.size, 13, none⟩) (show w.heap.size + 1 ≠ w.heap.size by omega) (.slice A5 (gapsF l).length c5)) (.string (bs r.r.name)) (.int .i64 r.r.ent) (.int .i64 r.r.ext) (.slice r.A1 r.r.path.length r.c1) (.slice r.A2 r.r.pts.length r.c2) (.slice r.A3 r.r.secs.length r.c3) (.int .i64 r.r.app) (.int .i64 r.r.len) (.slice r.A4 r.r.over.length r.c4) (.slice r.A5 r.r.opts.length r.c5) (.slice r.A6 r.r.osecs.length r.c6) (.slice r.A7 r.r.flk.length r.c7) (.slice r.A8 r.r.grd.length r.c8) (.slice A5 (gapsF l).length c5))
  have HRV : Hid (RvR (put14 (w5.setCell ⟨w.heap.size, 13, none⟩ (.slice A5 (gapsF l).length c5)) (w.heap.size + 1) (.string (bs r.r.name)) (.int .i64 r.r.ent) (.int .i64 r.r.ext) (.slice r.A1 r.r.path.length r.c1) (.slice r.A2 r.r.pts.length r.c2) (.slice r.A3 r.r.secs.length r.c3) (.int .i64 r.r.app) (.int .i64 r.r.len) (.slice r.A4 r.r.over.length r.c4) (.slice r.A5 r.r.opts.length r.c5) (.slice r.A6 r.r.osecs.length r.c6) (.slice r.A7 r.r.flk.length r.c7) (.slice r.A8 r.r.grd.length r.c8) (.slice A5 (gapsF l).length c5)) (fun b => S b ∨ (w.heap.size ≤ b ∧ b < (put14 (w5.setCell ⟨w.heap.size, 13, none⟩ (.slice A5 (gapsF l).length c5)) (w.heap.size + 1) (.string (bs r.r.name)) (.int .i64 r.r.ent) (.int .i64 r.r.ext) (.slice r.A1 r.r.path.length r.c1) (.slice r.A2 r.r.pts.length r.c2) (.slice r.A3 r.r.secs.length r.c3) (.int .i64 r.r.app) (.int .i64 r.r.len) (.slice r.A4 r.r.over.length r.c4) (.slice r.A5 r.r.opts.length r.c5) (.slice r.A6 r.r.osecs.length r.c6) (.slice r.A7 r.r.flk.length r.c7) (.slice r.A8 r.r.grd.length r.c8) (.slice A5 (gapsF l).length c5)).heap.size)) { r with r := { r.r with gap := (gapsF l) }, A9 := A5, c9 := c5 }) := Lib.hid ((hrv5.put9 A5 c5 (gapsF l) hrd5 hn5).out (fun k h1 h2 => by rw [put14_far _ _ _ _ _ _ _ _ _ _ _ _ _ _ _ _ _ h2, Below.heap_setCell _ _ _ _ h1]) (by rw [put14_size]; simp [World.setCell]))
  have HBB := Lib.hid (put14_bel (hB5.setCell (p := ⟨w.heap.size, 13, none⟩) (Nat.le_refl _) (.slice A5 (gapsF l).length c5)) (show w.heap.size ≤ w.heap.size + 1 by omega) (.string (bs r.r.name)) (.int .i64 r.r.ent) (.int .i64 r.r.ext) (.slice r.A1 r.r.path.length r.c1) (.slice r.A2 r.r.pts.length r.c2) (.slice r.A3 r.r.secs.length r.c3) (.int .i64 r.r.app) (.int .i64 r.r.len) (.slice r.A4 r.r.over.length r.c4) (.slice r.A5 r.r.opts.length r.c5) (.slice r.A6 r.r.osecs.length r.c6) (.slice r.A7 r.r.flk.length r.c7) (.slice r.A8 r.r.grd.length r.c8) (.slice A5 (gapsF l).length c5))
  clear hx5 hz5 hrv5 hrd5 hB5
  go_wp2_with fail
  refine bodyPost_ret (results_cell_row (P := Tryz.prog) rfl _ _ (w.heap.size + 1) 41 #[.string (bs r.r.name), .int .i64 r.r.ent, .int .i64 r.r.ext, .slice r.A1 r.r.path.length r.c1, .slice r.A2 r.r.pts.length r.c2, .slice r.A3 r.r.secs.length r.c3, .int .i64 r.r.app, .int .i64 r.r.len, .slice r.A4 r.r.over.length r.c4, .slice r.A5 r.r.opts.length r.c5, .slice r.A6 r.r.osecs.length r.c6, .slice r.A7 r.r.flk.length r.c7, .slice r.A8 r.r.grd.length r.c8, .slice A5 (gapsF l).length c5] (0, 0) _ (by rfl) HBL.out Tryz.underlying41 rfl (by kernel_rfl)) rfl ?_
  exact ⟨{ r with r := { r.r with gap := (gapsF l) }, A9 := A5, c9 := c5 }, HW.out.symm, rfl, HRV.out, HBB.out⟩
end Go.Proofs.YtlblfblkallnhaaGreatDoor
