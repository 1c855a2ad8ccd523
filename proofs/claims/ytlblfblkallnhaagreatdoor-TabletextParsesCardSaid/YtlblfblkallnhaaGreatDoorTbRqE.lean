/- The reference's extended: a list's line. -/
import Derived.Test.YtlblfblkallnhaaGreatDoorTbRqD
namespace Go.Proofs.YtlblfblkallnhaaGreatDoor
set_option linter.unusedVariables false
set_option linter.unusedSimpArgs false
open Go.RowKit
attribute [local go_sem] bs_size bs_get bs_append bs_extract bs_toList
attribute [-go_sem] run_equalIn_agg
theorem rWith_any (r : RouV) (x : List UInt8) (hx : 4 ≤ rankF x) (l : List Int) (A : Option Addr) (cap : Nat) (w : World) (S : Nat → Prop) (hS : ∀ b, S b → b < w.heap.size) (hr : RvR w S r) (hl : RdS cI w S A l) (hn : l.length ≤ 100000 ∧ l.length ≤ cap) :
    Calls Tryz.prog 68 #[.agg #[.string (bs r.r.name), .int .i64 r.r.ent, .int .i64 r.r.ext, .slice r.A1 r.r.path.length r.c1, .slice r.A2 r.r.pts.length r.c2, .slice r.A3 r.r.secs.length r.c3, .int .i64 r.r.app, .int .i64 r.r.len, .slice r.A4 r.r.over.length r.c4, .slice r.A5 r.r.opts.length r.c5, .slice r.A6 r.r.osecs.length r.c6, .slice r.A7 r.r.flk.length r.c7, .slice r.A8 r.r.grd.length r.c8, .slice r.A9 r.r.gap.length r.c9], .string (bs x), .slice A l.length cap] w (WithP w S (withF r.r x l)) := by
  have := rank_word (rfl : rankF x = rankF x) (by omega)
  rcases this with ⟨h, rfl⟩ | ⟨h, rfl⟩ | ⟨h, rfl⟩ | ⟨_, rfl⟩ | ⟨_, rfl⟩ | ⟨_, rfl⟩ | ⟨_, rfl⟩ | ⟨_, rfl⟩ | ⟨_, rfl⟩ | ⟨_, rfl⟩ | ⟨_, rfl⟩ | ⟨_, rfl⟩
  · omega
  · omega
  · omega
  · exact rWith_4 r l A cap w S hS hr hl hn
  · exact rWith_5 r l A cap w S hS hr hl hn
  · exact rWith_6 r l A cap w S hS hr hl hn
  · exact rWith_7 r l A cap w S hS hr hl hn
  · exact rWith_8 r l A cap w S hS hr hl hn
  · exact rWith_9 r l A cap w S hS hr hl hn
  · exact rWith_10 r l A cap w S hS hr hl hn
  · exact rWith_11 r l A cap w S hS hr hl hn
  · exact rWith_12 r l A cap w S hS hr hl hn
/-- Every part of a row's beginning. -/
theorem RdS.pre {α : Type} {c : Cod α} {w : World} {S : Nat → Prop} {A : Option Addr} {l : List α} (h : RdS c w S A l) (m : Nat) : RdS c w S A (l.take m) := fun hl => by
  rw [List.length_take] at hl
  obtain ⟨b, off, h1, h2, h3⟩ := h (by omega)
  refine ⟨b, off, h1, h2, fun i x hx => h3 i x ?_⟩
  rw [List.getElem?_take] at hx
  split at hx
  · exact hx
  · cases hx
theorem LowS.emptyAt {α : Type} (c : Cod α) {w : World} {base g : Nat} (S : Nat → Prop) {e : TypeId} (h : Blk w g e #[]) (hb : base ≤ g) : LowS c w base S e (.slice (some ⟨g, 0, none⟩) 0 0) ([] : List α) :=
  ⟨[], ⟨by simp, Or.inr ⟨g, 0, #[], rfl, hb, h, Nat.le_refl _, Nat.zero_le _, by simp, by simp⟩⟩, rfl, Nat.le_of_lt (Nat.lt_of_le_of_lt hb h.lt)⟩
theorem LowS.now {α : Type} {c : Cod α} {w w' : World} {base : Nat} {S : Nat → Prop} {e : TypeId} {v : Value} {l : List α} (h : LowS c w base S e v l) (hS : ∀ b, S b → b < w.heap.size) (hb : Below w.heap.size w w') : LowS c w' base S e v l :=
  h.same (fun b hb2 => hb.block b (h.lt b hb2).2) (fun b hb2 => hb.block b (hS b hb2)) hb.size
/-- The blocks that the data may lead to: those of the region's beginning beside the two boxes. -/
def OutW (W : World) (N : Nat → Prop) (gx : Nat) : Nat → Prop := fun b => b < W.heap.size ∧ b ≠ gx ∧ b ≠ gx + 1 ∧ ¬ N b
/-- What each operation's value is. -/
def PrX (W : World) (N : Nat → Prop) (gx : Nat) (v : TabV) (m : Nat) (r : RouV) (i : Nat) (x : Value) (w : World) : Prop :=
  if i = 0 then ∃ g, x = .slice (some ⟨g, 0, none⟩) 0 0 ∧ W.heap.size ≤ g ∧ Blk w g 41 #[]
  else if i = 2 then x = .slice v.A1 (m + 1) v.c1
  else if i = 3 then x = .int .i64 m
  else if i = 4 then x = .slice v.A1 m v.c1
  else if i = 5 then ∃ A c, x = .slice A m c ∧ LowS cR w W.heap.size (OutW W N gx) 41 (.slice A m c) (v.t.rts.take m)
  else if i = 6 then x = .agg #[.string (bs r.r.name), .int .i64 r.r.ent, .int .i64 r.r.ext, .slice r.A1 r.r.path.length r.c1, .slice r.A2 r.r.pts.length r.c2, .slice r.A3 r.r.secs.length r.c3, .int .i64 r.r.app, .int .i64 r.r.len, .slice r.A4 r.r.over.length r.c4, .slice r.A5 r.r.opts.length r.c5, .slice r.A6 r.r.osecs.length r.c6, .slice r.A7 r.r.flk.length r.c7, .slice r.A8 r.r.grd.length r.c8, .slice r.A9 r.r.gap.length r.c9]
  else if i = 7 then ∃ g, x = .slice (some ⟨g, 0, none⟩) 1 1 ∧ W.heap.size ≤ g ∧ Blk w g 41 #[.string (bs r.r.name), .int .i64 r.r.ent, .int .i64 r.r.ext, .slice r.A1 r.r.path.length r.c1, .slice r.A2 r.r.pts.length r.c2, .slice r.A3 r.r.secs.length r.c3, .int .i64 r.r.app, .int .i64 r.r.len, .slice r.A4 r.r.over.length r.c4, .slice r.A5 r.r.opts.length r.c5, .slice r.A6 r.r.osecs.length r.c6, .slice r.A7 r.r.flk.length r.c7, .slice r.A8 r.r.grd.length r.c8, .slice r.A9 r.r.gap.length r.c9]
  else if i = 8 then ∃ A c, x = .slice A (m + 1) c ∧ LowS cR w W.heap.size (OutW W N gx) 41 (.slice A (m + 1) c) (v.t.rts.take m ++ [r.r])
  else x = .pointer (some ⟨gx, 0, none⟩)
theorem PrX.now {W w w' : World} {N : Nat → Prop} {gx m i : Nat} {v : TabV} {r : RouV} {x : Value} (h : PrX W N gx v m r i x w) (hz : W.heap.size ≤ w.heap.size) (hb : Below w.heap.size w w') : PrX W N gx v m r i x w' := by
  unfold PrX at h ⊢
  by_cases h0 : i = 0
  · rw [if_pos h0] at h ⊢; obtain ⟨g, h1, h2, h3⟩ := h; exact ⟨g, h1, h2, h3.now hb⟩
  rw [if_neg h0] at h ⊢
  by_cases h0 : i = 2
  · rw [if_pos h0] at h ⊢; exact h
  rw [if_neg h0] at h ⊢
  by_cases h0 : i = 3
  · rw [if_pos h0] at h ⊢; exact h
  rw [if_neg h0] at h ⊢
  by_cases h0 : i = 4
  · rw [if_pos h0] at h ⊢; exact h
  rw [if_neg h0] at h ⊢
  by_cases h0 : i = 5
  · rw [if_pos h0] at h ⊢; obtain ⟨A, c, h1, h2⟩ := h; exact ⟨A, c, h1, h2.now (fun b hb => Nat.lt_of_lt_of_le hb.1 hz) hb⟩
  rw [if_neg h0] at h ⊢
  by_cases h0 : i = 6
  · rw [if_pos h0] at h ⊢; exact h
  rw [if_neg h0] at h ⊢
  by_cases h0 : i = 7
  · rw [if_pos h0] at h ⊢; obtain ⟨g, h1, h2, h3⟩ := h; exact ⟨g, h1, h2, h3.now hb⟩
  rw [if_neg h0] at h ⊢
  by_cases h0 : i = 8
  · rw [if_pos h0] at h ⊢; obtain ⟨A, c, h1, h2⟩ := h; exact ⟨A, c, h1, h2.now (fun b hb => Nat.lt_of_lt_of_le hb.1 hz) hb⟩
  rw [if_neg h0] at h ⊢
  exact h
/-- Whether an operation's value is still wanted. -/
def CnX (listed : Array Bool) (i : Nat) : Prop := (i = 0 → listed[5]? = some false) ∧ (i = 5 ∨ i = 7 → listed[8]? = some false) ∧ (i = 8 → listed[10]? = some false)
theorem set_false {listed : Array Bool} {i k : Nat} (h : (listed.setIfInBounds i true)[k]? = some false) : listed[k]? = some false := by
  by_cases e : i = k
  · subst e
    rw [Array.getElem?_setIfInBounds_self] at h
    split at h <;> cases h
  · rwa [Array.getElem?_setIfInBounds_ne e] at h
theorem CnX.less {listed : Array Bool} {i j : Nat} (h : CnX (listed.setIfInBounds i true) j) : CnX listed j := ⟨fun e => set_false (h.1 e), fun e => set_false (h.2.1 e), fun e => set_false (h.2.2 e)⟩
structure I23 (W : World) (N : Nat → Prop) (gx g15 : Nat) (v : TabV) (m : Nat) (r : RouV) (listed : Array Bool) (a : Act) (w : World) : Prop where
  sz : listed.size = 11
  ts : a.tmps.size = 126
  df : a.defers = []
  t2 : a.eval (.tmp 2) = .pointer (some ⟨gx, 0, none⟩)
  t4 : a.eval (.tmp 4) = .pointer (some ⟨gx + 1, 0, none⟩)
  t13 : a.eval (.tmp 13) = .bool true
  t14 : a.eval (.tmp 14) = .int .i64 m
  t15 : a.eval (.tmp 15) = .pointer (some ⟨g15, 0, none⟩)
  bel : Below gx W w
  old : ∀ b, b < W.heap.size → b ≠ gx → w.heap[b]? = W.heap[b]?
  ord : listed[10]? = some true → ∀ j, j < 10 → listed[j]? = some true
  o8 : listed[8]? = some true → listed[5]? = some true
  b0 : listed[10]? = some false → Blk w gx 25 #[.slice v.A1 v.t.rts.length v.c1, .slice v.A2 v.t.pts.length v.c2, .slice v.A3 v.t.homes.length v.c3, .int .i64 v.t.nsec, .int .i64 v.t.nsig]
  b1 : listed[10]? = some true → ∃ A c, Blk w gx 25 #[.slice A (m + 1) c, .slice v.A2 v.t.pts.length v.c2, .slice v.A3 v.t.homes.length v.c3, .int .i64 v.t.nsec, .int .i64 v.t.nsig] ∧ LowS cR w W.heap.size (OutW W N gx) 41 (.slice A (m + 1) c) (v.t.rts.take m ++ [r.r])
  at_ : ∀ i, i < 10 → listed[i]? = some true → CnX listed i → PrX W N gx v m r i (a.eval (.tmp (i + 114))) w
/-- What does not change in the region. -/
structure C23 (W : World) (N : Nat → Prop) (gx g15 : Nat) (v : TabV) (m : Nat) (r : RouV) : Prop where
  lx : gx < W.heap.size
  l15 : g15 < W.heap.size
  ne : g15 ≠ gx
  b15 : Blk W g15 41 #[.string (bs r.r.name), .int .i64 r.r.ent, .int .i64 r.r.ext, .slice r.A1 r.r.path.length r.c1, .slice r.A2 r.r.pts.length r.c2, .slice r.A3 r.r.secs.length r.c3, .int .i64 r.r.app, .int .i64 r.r.len, .slice r.A4 r.r.over.length r.c4, .slice r.A5 r.r.opts.length r.c5, .slice r.A6 r.r.osecs.length r.c6, .slice r.A7 r.r.flk.length r.c7, .slice r.A8 r.r.grd.length r.c8, .slice r.A9 r.r.gap.length r.c9]
  rd : RdS cR W (OutW W N gx) v.A1 v.t.rts
  rv : RvR W (OutW W N gx) r
  len : v.t.rts.length = m + 1
  cap : m + 1 ≤ v.c1
  sm : m ≤ 40000
section
variable {W w w' : World} {N : Nat → Prop} {gx g15 m : Nat} {v : TabV} {r : RouV} {listed : Array Bool} {a : Act} {Q : Exit → Act → World → Prop}
theorem I23.open10 (h : I23 W N gx g15 v m r listed a w) {i : Nat} (hi : i < 10) (hl : listed[i]? = some false) : listed[10]? = some false := by
  cases hv : listed[10]? with
  | none => rw [Array.getElem?_eq_none_iff, h.sz] at hv; omega
  | some b =>
    cases b with
    | false => rfl
    | true => have := h.ord hv i hi; rw [hl] at this; cases this
theorem I23.tail (h : I23 W N gx g15 v m r listed a w) {i : Nat} (hi : i < 10) (x : Value) (hb : Below gx w w') (ho : ∀ b, b < W.heap.size → b ≠ gx → w'.heap[b]? = w.heap[b]?) (hx : listed[10]? = some false) (h85 : i = 8 → listed[5]? = some true) (hk : Blk w' gx 25 #[.slice v.A1 v.t.rts.length v.c1, .slice v.A2 v.t.pts.length v.c2, .slice v.A3 v.t.homes.length v.c3, .int .i64 v.t.nsec, .int .i64 v.t.nsig]) (hz : w.heap.size ≤ w'.heap.size)
    (hp : ∀ j, j < 10 → (listed.setIfInBounds i true)[j]? = some true → CnX (listed.setIfInBounds i true) j → PrX W N gx v m r j ((a.put (some (i + 114)) x).eval (.tmp (j + 114))) w') : I23 W N gx g15 v m r (listed.setIfInBounds i true) (a.put (some (i + 114)) x) w' := by
  have h10 : (listed.setIfInBounds i true)[10]? = some false := by rw [Array.getElem?_setIfInBounds_ne (by omega)]; exact hx
  refine ⟨by rw [Array.size_setIfInBounds]; exact h.sz, by rw [put_size]; exact h.ts, h.df, by rw [put_ne _ _ _ _ (by omega)]; exact h.t2, by rw [put_ne _ _ _ _ (by omega)]; exact h.t4, by rw [put_ne _ _ _ _ (by omega)]; exact h.t13, by rw [put_ne _ _ _ _ (by omega)]; exact h.t14, by rw [put_ne _ _ _ _ (by omega)]; exact h.t15, h.bel.trans hb, fun b hb1 hb2 => (ho b hb1 hb2).trans (h.old b hb1 hb2), fun h1 => ?_, fun h1 => ?_, fun _ => hk, fun h1 => ?_, hp⟩
  · rw [h10] at h1; cases h1
  · by_cases e5 : i = 5
    · subst e5; rw [Array.getElem?_setIfInBounds_self, if_pos (by rw [h.sz]; omega)]
    · rw [Array.getElem?_setIfInBounds_ne e5]
      by_cases e8 : i = 8
      · exact h85 e8
      · rw [Array.getElem?_setIfInBounds_ne e8] at h1; exact h.o8 h1
  · rw [h10] at h1; cases h1
theorem I23.step (h : I23 W N gx g15 v m r listed a w) (c : C23 W N gx g15 v m r) {i : Nat} (hi : i < 10) (hi8 : i ≠ 8) (hl : listed[i]? = some false) {x : Value} (hb : Below w.heap.size w w') (hx : PrX W N gx v m r i x w') : I23 W N gx g15 v m r (listed.setIfInBounds i true) (a.put (some (i + 114)) x) w' := by
  have h10 := h.open10 hi hl
  have hz : W.heap.size ≤ w.heap.size := h.bel.size
  have hlx := c.lx
  refine h.tail hi x (hb.mono (by omega)) (fun b hb1 _ => hb.block b (by omega)) h10 (fun e => absurd e hi8) ((h.b0 h10).now hb) hb.size fun j hj hlj hc => ?_
  by_cases e : i = j
  · subst e; rw [put_same _ _ _ (by rw [h.ts]; omega)]; exact hx
  · rw [put_ne _ _ _ _ (by omega)]
    rw [Array.getElem?_setIfInBounds_ne e] at hlj
    exact (h.at_ j hj hlj hc.less).now hz hb
theorem I23.step8 (h : I23 W N gx g15 v m r listed a w) (c : C23 W N gx g15 v m r) (hl : listed[8]? = some false) (h5 : listed[5]? = some true) {x : Value} (hf : Frm W.heap.size 41 w w') (hx : PrX W N gx v m r 8 x w') : I23 W N gx g15 v m r (listed.setIfInBounds 8 true) (a.put (some (8 + 114)) x) w' := by
  have h10 := h.open10 (by omega) hl
  have hz : W.heap.size ≤ w.heap.size := h.bel.size
  have hlx := c.lx
  refine h.tail (by omega) x (hf.keeps (by omega) (by omega) (Below.refl _ _)) (fun b hb1 _ => hf.low b hb1 (by omega)) h10 (fun _ => h5) (hf.blk (h.b0 h10) (by decide)) hf.size fun j hj hlj hc => ?_
  by_cases e : 8 = j
  · subst e; rw [put_same _ _ _ (by rw [h.ts]; omega)]; exact hx
  · rw [put_ne _ _ _ _ (by omega)]
    rw [Array.getElem?_setIfInBounds_ne e] at hlj
    have h2 := h.at_ j hj hlj hc.less
    have e0 : j ≠ 0 := fun e => by have h3 := set_false (hc.1 e); rw [h5] at h3; cases h3
    have e5 : ¬ (j = 5 ∨ j = 7) := fun e => by
      have h3 := hc.2.1 e
      rw [Array.getElem?_setIfInBounds_self] at h3
      split at h3 <;> cases h3
    have e5' : j ≠ 5 := fun e => e5 (Or.inl e)
    have e7' : j ≠ 7 := fun e => e5 (Or.inr e)
    unfold PrX at h2 ⊢
    rw [if_neg e0, if_neg e5', if_neg e7', if_neg (show ¬ j = 8 from fun e' => e e'.symm)] at h2 ⊢
    exact h2
theorem I23.fin (h : I23 W N gx g15 v m r listed a w) (c : C23 W N gx g15 v m r) (hall : ∀ j, j < 10 → listed[j]? = some true) (hl : listed[10]? = some false) {A : Option Addr} {cc : Nat} (hx : LowS cR w W.heap.size (OutW W N gx) 41 (.slice A (m + 1) cc) (v.t.rts.take m ++ [r.r])) : I23 W N gx g15 v m r (listed.setIfInBounds 10 true) a (w.setCell ⟨gx, 0, none⟩ (.slice A (m + 1) cc)) := by
  have hlx := c.lx
  have hz : W.heap.size ≤ w.heap.size := h.bel.size
  have h10 : (listed.setIfInBounds 10 true)[10]? = some true := by rw [Array.getElem?_setIfInBounds_self, if_pos (by rw [h.sz]; omega)]
  have hb := h.b0 hl
  have hn : ∀ b, b ≠ gx → (w.setCell ⟨gx, 0, none⟩ (.slice A (m + 1) cc)).heap[b]? = w.heap[b]? := fun b hb => Below.heap_setCell _ _ _ _ hb
  have hsz : (w.setCell ⟨gx, 0, none⟩ (.slice A (m + 1) cc)).heap.size = w.heap.size := by simp [World.setCell]
  have hlow : LowS cR (w.setCell ⟨gx, 0, none⟩ (.slice A (m + 1) cc)) W.heap.size (OutW W N gx) 41 (.slice A (m + 1) cc) (v.t.rts.take m ++ [r.r]) := hx.same (fun b hb2 => hn b (hx.ne hb (by decide) b hb2)) (fun b hb2 => hn b hb2.2.1) (by rw [hsz]; exact Nat.le_refl _)
  refine ⟨by rw [Array.size_setIfInBounds]; exact h.sz, h.ts, h.df, h.t2, h.t4, h.t13, h.t14, h.t15, h.bel.setCell (p := ⟨gx, 0, none⟩) (Nat.le_refl _) _, fun b hb1 hb2 => (hn b hb2).trans (h.old b hb1 hb2), fun _ j hj => ?_, fun h1 => by rw [Array.getElem?_setIfInBounds_ne (by omega)]; exact hall 5 (by omega), fun h1 => ?_, fun _ => ⟨A, cc, hb.set 0 _, hlow⟩, fun j hj hlj hc => ?_⟩
  · rw [Array.getElem?_setIfInBounds_ne (by omega)]; exact hall j hj
  · rw [h10] at h1; cases h1
  · have e10 : 10 ≠ j := by omega
    rw [Array.getElem?_setIfInBounds_ne e10] at hlj
    have h2 := h.at_ j hj hlj hc.less
    have e8 : j ≠ 8 := fun e => by have h3 := hc.2.2 e; rw [h10] at h3; cases h3
    have e0 : j ≠ 0 := fun e => by have h3 := set_false (hc.1 e); rw [hall 5 (by omega)] at h3; cases h3
    have e5 : ¬ (j = 5 ∨ j = 7) := fun e => by have h3 := set_false (hc.2.1 e); rw [hall 8 (by omega)] at h3; cases h3
    unfold PrX at h2 ⊢
    rw [if_neg e0, if_neg (fun e => e5 (Or.inl e)), if_neg (fun e => e5 (Or.inr e)), if_neg e8] at h2 ⊢
    exact h2
end
theorem PrX_0 {W w : World} {N : Nat → Prop} {gx m : Nat} {v : TabV} {r : RouV} {x : Value} : PrX W N gx v m r 0 x w ↔ (∃ g, x = .slice (some ⟨g, 0, none⟩) 0 0 ∧ W.heap.size ≤ g ∧ Blk w g 41 #[]) := Iff.rfl
theorem PrX_1 {W w : World} {N : Nat → Prop} {gx m : Nat} {v : TabV} {r : RouV} {x : Value} : PrX W N gx v m r 1 x w ↔ (x = .pointer (some ⟨gx, 0, none⟩)) := Iff.rfl
theorem PrX_9 {W w : World} {N : Nat → Prop} {gx m : Nat} {v : TabV} {r : RouV} {x : Value} : PrX W N gx v m r 9 x w ↔ (x = .pointer (some ⟨gx, 0, none⟩)) := Iff.rfl
theorem PrX_2 {W w : World} {N : Nat → Prop} {gx m : Nat} {v : TabV} {r : RouV} {x : Value} : PrX W N gx v m r 2 x w ↔ (x = .slice v.A1 (m + 1) v.c1) := Iff.rfl
theorem PrX_3 {W w : World} {N : Nat → Prop} {gx m : Nat} {v : TabV} {r : RouV} {x : Value} : PrX W N gx v m r 3 x w ↔ (x = .int .i64 m) := Iff.rfl
theorem PrX_4 {W w : World} {N : Nat → Prop} {gx m : Nat} {v : TabV} {r : RouV} {x : Value} : PrX W N gx v m r 4 x w ↔ (x = .slice v.A1 m v.c1) := Iff.rfl
theorem PrX_5 {W w : World} {N : Nat → Prop} {gx m : Nat} {v : TabV} {r : RouV} {x : Value} : PrX W N gx v m r 5 x w ↔ (∃ A c, x = .slice A m c ∧ LowS cR w W.heap.size (OutW W N gx) 41 (.slice A m c) (v.t.rts.take m)) := Iff.rfl
theorem PrX_6 {W w : World} {N : Nat → Prop} {gx m : Nat} {v : TabV} {r : RouV} {x : Value} : PrX W N gx v m r 6 x w ↔ (x = .agg #[.string (bs r.r.name), .int .i64 r.r.ent, .int .i64 r.r.ext, .slice r.A1 r.r.path.length r.c1, .slice r.A2 r.r.pts.length r.c2, .slice r.A3 r.r.secs.length r.c3, .int .i64 r.r.app, .int .i64 r.r.len, .slice r.A4 r.r.over.length r.c4, .slice r.A5 r.r.opts.length r.c5, .slice r.A6 r.r.osecs.length r.c6, .slice r.A7 r.r.flk.length r.c7, .slice r.A8 r.r.grd.length r.c8, .slice r.A9 r.r.gap.length r.c9]) := Iff.rfl
theorem PrX_7 {W w : World} {N : Nat → Prop} {gx m : Nat} {v : TabV} {r : RouV} {x : Value} : PrX W N gx v m r 7 x w ↔ (∃ g, x = .slice (some ⟨g, 0, none⟩) 1 1 ∧ W.heap.size ≤ g ∧ Blk w g 41 #[.string (bs r.r.name), .int .i64 r.r.ent, .int .i64 r.r.ext, .slice r.A1 r.r.path.length r.c1, .slice r.A2 r.r.pts.length r.c2, .slice r.A3 r.r.secs.length r.c3, .int .i64 r.r.app, .int .i64 r.r.len, .slice r.A4 r.r.over.length r.c4, .slice r.A5 r.r.opts.length r.c5, .slice r.A6 r.r.osecs.length r.c6, .slice r.A7 r.r.flk.length r.c7, .slice r.A8 r.r.grd.length r.c8, .slice r.A9 r.r.gap.length r.c9]) := Iff.rfl
theorem PrX_8 {W w : World} {N : Nat → Prop} {gx m : Nat} {v : TabV} {r : RouV} {x : Value} : PrX W N gx v m r 8 x w ↔ (∃ A c, x = .slice A (m + 1) c ∧ LowS cR w W.heap.size (OutW W N gx) 41 (.slice A (m + 1) c) (v.t.rts.take m ++ [r.r])) := Iff.rfl
theorem CnX.q {listed : Array Bool} {j : Nat} (h : j ≠ 0 ∧ j ≠ 5 ∧ j ≠ 7 ∧ j ≠ 8) : CnX listed j := ⟨fun e => absurd e h.1, fun e => by omega, fun e => absurd e h.2.2.2⟩
theorem rou_one {w : World} {S : Nat → Prop} (ys : List Value) (x : Rou) (h : cR.rd w S ys x) : ∀ u ∈ ys, u.oneCell' = true := by
  obtain ⟨v, _, rfl, _⟩ := h
  intro u hu
  unfold rouV at hu
  simp only [List.mem_cons, List.not_mem_nil, or_false] at hu
  rcases hu with rfl | rfl | rfl | rfl | rfl | rfl | rfl | rfl | rfl | rfl | rfl | rfl | rfl | rfl <;> rfl
def opsX : Array Oper := #[.mk (some 114) (.buildSlice 22 0 #[]) 22 "ref.go:214" #[] none, .mk (some 115) (.fieldAddr 25 (.tmp 2) 0) 0 "ref.go:214" #[] none, .mk (some 116) (.load 22 (.tmp 115)) 22 "ref.go:214" #[.mk 1 .data] none, .mk (some 117) (.move (.tmp 14)) 3 "ref.go:214" #[] none, .mk (some 118) (.slice 22 (.tmp 116) none (some (.tmp 117)) none) 22 "ref.go:214" #[.mk 2 .data, .mk 3 .data] none, .mk (some 119) (.call (.mk (.builtin .append) #[.tmp 114, .tmp 118] #[22, 22])) 22 "ref.go:214" #[.mk 0 .data, .mk 4 .data] none, .mk (some 120) (.load 41 (.tmp 15)) 41 "ref.go:214" #[] none, .mk (some 121) (.buildSlice 22 1 #[(0, .tmp 120)]) 22 "ref.go:214" #[.mk 6 .data] none, .mk (some 122) (.call (.mk (.builtin .append) #[.tmp 119, .tmp 121] #[22, 22])) 22 "ref.go:214" #[.mk 5 .data, .mk 7 .data, .mk 5 .chain] none, .mk (some 123) (.fieldAddr 25 (.tmp 2) 0) 0 "ref.go:214" #[.mk 0 .phase, .mk 1 .phase, .mk 2 .phase, .mk 3 .phase, .mk 4 .phase, .mk 5 .phase, .mk 6 .phase, .mk 7 .phase, .mk 8 .phase] none, .mk none (.store 22 (.tmp 123) (.tmp 122)) 0 "ref.go:214" #[.mk 9 .data, .mk 8 .data, .mk 8 .chain, .mk 0 .phase, .mk 1 .phase, .mk 2 .phase, .mk 3 .phase, .mk 4 .phase, .mk 5 .phase, .mk 6 .phase, .mk 7 .phase, .mk 8 .phase] none]
section
variable {W w : World} {N : Nat → Prop} {gx g15 m : Nat} {v : TabV} {r : RouV} {listed : Array Bool} {a : Act} {Q : Exit → Act → World → Prop}
theorem I23.step5 {w' : World} (h : I23 W N gx g15 v m r listed a w) (c : C23 W N gx g15 v m r) (hl : listed[5]? = some false) {g : Nat} (hg : Blk w g 41 #[]) (hgz : W.heap.size ≤ g) {x : Value} (hf : Frm W.heap.size 41 w w') (hgr : w.grownBy w' (some g)) (hx : PrX W N gx v m r 5 x w') : I23 W N gx g15 v m r (listed.setIfInBounds 5 true) (a.put (some (5 + 114)) x) w' := by
  have h10 := h.open10 (by omega) hl
  have hz : W.heap.size ≤ w.heap.size := h.bel.size
  have hlx := c.lx
  refine h.tail (by omega) x (hf.keeps (by omega) (by omega) (Below.refl _ _)) (fun b hb1 _ => hf.low b hb1 (by omega)) h10 (fun e => absurd e (by omega)) (hf.blk (h.b0 h10) (by decide)) hf.size fun j hj hlj hc => ?_
  by_cases e : 5 = j
  · subst e; rw [put_same _ _ _ (by rw [h.ts]; omega)]; exact hx
  · rw [put_ne _ _ _ _ (by omega)]
    rw [Array.getElem?_setIfInBounds_ne e] at hlj
    have h2 := h.at_ j hj hlj hc.less
    have e0 : j ≠ 0 := fun e => by
      have h3 := hc.1 e
      rw [Array.getElem?_setIfInBounds_self] at h3
      split at h3 <;> cases h3
    have e8 : j ≠ 8 := fun e => by subst e; have h3 := h.o8 hlj; rw [hl] at h3; cases h3
    by_cases e7 : j = 7
    · subst e7
      obtain ⟨g7, h3, h4, h5⟩ := PrX_7.1 h2
      refine PrX_7.2 ⟨g7, h3, h4, (hgr.block g7 h5.lt ?_).trans h5⟩
      rintro he
      obtain rfl : g7 = g := Option.some.inj he
      have h6 := hg.symm.trans h5
      simp at h6
    · unfold PrX at h2 ⊢
      rw [if_neg e0, if_neg (show ¬ j = 5 from fun e' => e e'.symm), if_neg e7, if_neg e8] at h2 ⊢
      exact h2
set_option maxRecDepth 100000 in
set_option maxHeartbeats 4000000 in
theorem stX_0 (h : I23 W N gx g15 v m r listed a w) (c : C23 W N gx g15 v m r) (hl : listed[0]? = some false) : wpOp Tryz.prog opsX Q 0 (fun a' w' => I23 W N gx g15 v m r (listed.setIfInBounds 0 true) a' w') a w := by
  refine wpOp_at (o := .mk (some 114) (.buildSlice 22 0 #[]) 22 "ref.go:214" #[] none) rfl ?_
  have hK : Hid (∀ x w', Below w.heap.size w w' → PrX W N gx v m r 0 x w' → I23 W N gx g15 v m r (listed.setIfInBounds 0 true) (a.put (some (0 + 114)) x) w') := Lib.hid (fun x w' hb hx => h.step c (by omega) (by omega) hl hb hx)
  obtain ⟨K, hKe⟩ : ∃ K : Act → World → Prop, K = fun a' w' => I23 W N gx g15 v m r (listed.setIfInBounds 0 true) a' w' := ⟨_, rfl⟩
  have hK2 : Hid (∀ x w', Below w.heap.size w w' → PrX W N gx v m r 0 x w' → K (a.put (some (0 + 114)) x) w') := Lib.hid (by rw [hKe]; exact hK.out)
  rw [← hKe]
  clear hKe hK
  have hz := h.bel.size
  clear h
  go_simp
  exact hK2.out _ _ ((Below.refl _ _).alloc (Nat.le_refl _) _) (PrX_0.2 ⟨_, rfl, hz, Blk.new _ _ _ _ rfl⟩)
set_option maxRecDepth 100000 in
set_option maxHeartbeats 4000000 in
theorem stX_1 (h : I23 W N gx g15 v m r listed a w) (c : C23 W N gx g15 v m r) (hl : listed[1]? = some false) : wpOp Tryz.prog opsX Q 1 (fun a' w' => I23 W N gx g15 v m r (listed.setIfInBounds 1 true) a' w') a w := by
  refine wpOp_at (o := .mk (some 115) (.fieldAddr 25 (.tmp 2) 0) 0 "ref.go:214" #[] none) rfl ?_
  have hK : Hid (∀ x w', Below w.heap.size w w' → PrX W N gx v m r 1 x w' → I23 W N gx g15 v m r (listed.setIfInBounds 1 true) (a.put (some (1 + 114)) x) w') := Lib.hid (fun x w' hb hx => h.step c (by omega) (by omega) hl hb hx)
  obtain ⟨K, hKe⟩ : ∃ K : Act → World → Prop, K = fun a' w' => I23 W N gx g15 v m r (listed.setIfInBounds 1 true) a' w' := ⟨_, rfl⟩
  have hK2 : Hid (∀ x w', Below w.heap.size w w' → PrX W N gx v m r 1 x w' → K (a.put (some (1 + 114)) x) w') := Lib.hid (by rw [hKe]; exact hK.out)
  rw [← hKe]
  clear hKe hK
  have hz := h.bel.size
  have e2 := h.t2
  rw [ev_eq] at e2
  clear h
  go_simp
  exact hK2.out _ _ (Below.refl _ _) (PrX_1.2 rfl)
set_option maxRecDepth 100000 in
set_option maxHeartbeats 4000000 in
theorem stX_2 (h : I23 W N gx g15 v m r listed a w) (c : C23 W N gx g15 v m r) (hl : listed[2]? = some false) (h1 : listed[1]? = some true) : wpOp Tryz.prog opsX Q 2 (fun a' w' => I23 W N gx g15 v m r (listed.setIfInBounds 2 true) a' w') a w := by
  refine wpOp_at (o := .mk (some 116) (.load 22 (.tmp 115)) 22 "ref.go:214" #[.mk 1 .data] none) rfl ?_
  have hK : Hid (∀ x w', Below w.heap.size w w' → PrX W N gx v m r 2 x w' → I23 W N gx g15 v m r (listed.setIfInBounds 2 true) (a.put (some (2 + 114)) x) w') := Lib.hid (fun x w' hb hx => h.step c (by omega) (by omega) hl hb hx)
  obtain ⟨K, hKe⟩ : ∃ K : Act → World → Prop, K = fun a' w' => I23 W N gx g15 v m r (listed.setIfInBounds 2 true) a' w' := ⟨_, rfl⟩
  have hK2 : Hid (∀ x w', Below w.heap.size w w' → PrX W N gx v m r 2 x w' → K (a.put (some (2 + 114)) x) w') := Lib.hid (by rw [hKe]; exact hK.out)
  rw [← hKe]
  clear hKe hK
  have hz := h.bel.size
  have e1 : a.eval (.tmp 115) = .pointer (some ⟨gx, 0, none⟩) := PrX_1.1 (h.at_ 1 (by omega) h1 (CnX.q (by omega)))
  rw [ev_eq] at e1
  have x0 : w.cell? ⟨gx, 0, none⟩ = some (.slice v.A1 (m + 1) v.c1) := by rw [← c.len]; exact (h.b0 (h.open10 (by omega) hl)).cell 0
  clear h
  go_simp
  exact hK2.out _ _ (Below.refl _ _) (PrX_2.2 rfl)
set_option maxRecDepth 100000 in
set_option maxHeartbeats 4000000 in
theorem stX_3 (h : I23 W N gx g15 v m r listed a w) (c : C23 W N gx g15 v m r) (hl : listed[3]? = some false) : wpOp Tryz.prog opsX Q 3 (fun a' w' => I23 W N gx g15 v m r (listed.setIfInBounds 3 true) a' w') a w := by
  refine wpOp_at (o := .mk (some 117) (.move (.tmp 14)) 3 "ref.go:214" #[] none) rfl ?_
  have hK : Hid (∀ x w', Below w.heap.size w w' → PrX W N gx v m r 3 x w' → I23 W N gx g15 v m r (listed.setIfInBounds 3 true) (a.put (some (3 + 114)) x) w') := Lib.hid (fun x w' hb hx => h.step c (by omega) (by omega) hl hb hx)
  obtain ⟨K, hKe⟩ : ∃ K : Act → World → Prop, K = fun a' w' => I23 W N gx g15 v m r (listed.setIfInBounds 3 true) a' w' := ⟨_, rfl⟩
  have hK2 : Hid (∀ x w', Below w.heap.size w w' → PrX W N gx v m r 3 x w' → K (a.put (some (3 + 114)) x) w') := Lib.hid (by rw [hKe]; exact hK.out)
  rw [← hKe]
  clear hKe hK
  have hz := h.bel.size
  have e1 := h.t14
  rw [ev_eq] at e1
  clear h
  go_simp
  exact hK2.out _ _ (Below.refl _ _) (PrX_3.2 rfl)
set_option maxRecDepth 100000 in
set_option maxHeartbeats 4000000 in
theorem stX_4 (h : I23 W N gx g15 v m r listed a w) (c : C23 W N gx g15 v m r) (hl : listed[4]? = some false) (h2 : listed[2]? = some true) (h3 : listed[3]? = some true) : wpOp Tryz.prog opsX Q 4 (fun a' w' => I23 W N gx g15 v m r (listed.setIfInBounds 4 true) a' w') a w := by
  refine wpOp_at (o := .mk (some 118) (.slice 22 (.tmp 116) none (some (.tmp 117)) none) 22 "ref.go:214" #[.mk 2 .data, .mk 3 .data] none) rfl ?_
  have hK : Hid (∀ x w', Below w.heap.size w w' → PrX W N gx v m r 4 x w' → I23 W N gx g15 v m r (listed.setIfInBounds 4 true) (a.put (some (4 + 114)) x) w') := Lib.hid (fun x w' hb hx => h.step c (by omega) (by omega) hl hb hx)
  obtain ⟨K, hKe⟩ : ∃ K : Act → World → Prop, K = fun a' w' => I23 W N gx g15 v m r (listed.setIfInBounds 4 true) a' w' := ⟨_, rfl⟩
  have hK2 : Hid (∀ x w', Below w.heap.size w w' → PrX W N gx v m r 4 x w' → K (a.put (some (4 + 114)) x) w') := Lib.hid (by rw [hKe]; exact hK.out)
  rw [← hKe]
  clear hKe hK
  have hz := h.bel.size
  have e2 : a.eval (.tmp 116) = .slice v.A1 (m + 1) v.c1 := PrX_2.1 (h.at_ 2 (by omega) h2 (CnX.q (by omega)))
  have e3 : a.eval (.tmp 117) = .int .i64 m := PrX_3.1 (h.at_ 3 (by omega) h3 (CnX.q (by omega)))
  rw [ev_eq] at e2 e3
  obtain ⟨b, off, hA, -, -⟩ := c.rd (by rw [c.len]; omega)
  have hcap := c.cap
  have hcm : m ≤ v.c1 := by omega
  have hcmi : (m : Int) ≤ (v.c1 : Int) := by omega
  have HP : Hid (∀ x w', x = .slice (some ⟨b, off, none⟩) m v.c1 → PrX W N gx v m r 4 x w') := Lib.hid fun x w' hx => PrX_4.2 (by rw [hA]; exact hx)
  rw [hA] at e2
  clear h hA
  go_simp
  exact hK2.out _ _ (Below.refl _ _) (HP.out _ _ rfl)
set_option maxRecDepth 100000 in
set_option maxHeartbeats 4000000 in
theorem stX_5 (h : I23 W N gx g15 v m r listed a w) (c : C23 W N gx g15 v m r) (hl : listed[5]? = some false) (h0 : listed[0]? = some true) (h4 : listed[4]? = some true) : wpOp Tryz.prog opsX Q 5 (fun a' w' => I23 W N gx g15 v m r (listed.setIfInBounds 5 true) a' w') a w := by
  refine wpOp_at (o := .mk (some 119) (.call (.mk (.builtin .append) #[.tmp 114, .tmp 118] #[22, 22])) 22 "ref.go:214" #[.mk 0 .data, .mk 4 .data] none) rfl ?_
  have hK : Hid (∀ g x w', Blk w g 41 #[] → W.heap.size ≤ g → Frm W.heap.size 41 w w' → w.grownBy w' (some g) → PrX W N gx v m r 5 x w' → I23 W N gx g15 v m r (listed.setIfInBounds 5 true) (a.put (some (5 + 114)) x) w') := Lib.hid (fun g x w' hg hgz hf hgr hx => h.step5 c hl hg hgz hf hgr hx)
  obtain ⟨K, hKe⟩ : ∃ K : Act → World → Prop, K = fun a' w' => I23 W N gx g15 v m r (listed.setIfInBounds 5 true) a' w' := ⟨_, rfl⟩
  have hK2 : Hid (∀ g x w', Blk w g 41 #[] → W.heap.size ≤ g → Frm W.heap.size 41 w w' → w.grownBy w' (some g) → PrX W N gx v m r 5 x w' → K (a.put (some (5 + 114)) x) w') := Lib.hid (by rw [hKe]; exact hK.out)
  rw [← hKe]
  clear hKe hK
  have hz := h.bel.size
  obtain ⟨g, e0, hgz, hB⟩ : ∃ g, a.eval (.tmp 114) = .slice (some ⟨g, 0, none⟩) 0 0 ∧ W.heap.size ≤ g ∧ Blk w g 41 #[] := PrX_0.1 (h.at_ 0 (by omega) h0 ⟨fun _ => hl, fun e => by omega, fun e => by omega⟩)
  have e4 : a.eval (.tmp 118) = .slice v.A1 m v.c1 := PrX_4.1 (h.at_ 4 (by omega) h4 (CnX.q (by omega)))
  obtain ⟨b, off, hA, hob, -⟩ := c.rd (by rw [c.len]; omega)
  have hpre := c.rd.pre m
  rw [hA] at hpre e4
  obtain ⟨news, hn1, hn2⟩ := hpre.cells
  have hsm := c.sm
  have hn3 : RdC cR w (OutW W N gx) news (v.t.rts.take m) := hn1.keep fun p hp => cell_same (h.old p.block hp.1 hp.2.1)
  have hlen : (v.t.rts.take m).length = m := by rw [List.length_take, c.len]; omega
  obtain ⟨i0, hi0, hy0, hy1, hy2⟩ := info_parts infoRouT
  refine step_append_lowS (c := cR) rfl (.tmp 114) (.tmp 118) 22 rfl W.heap.size 41 i0 _ 264 Tryz.underlying22 hi0 hy0 hy1 hy2 rfl (by decide) (OutW W N gx) (fun b h => h.1) _ [] e0 (LowS.emptyAt cR (OutW W N gx) hB hgz) news (v.t.rts.take m) hn3 (hn3.one rou_one) ⟨b, off, none⟩ m v.c1 hlen.symm e4 (fun j u hj => ?_) (by rw [hlen]; simp; omega) (by omega) ?_
  · have h1 := hn2 j u hj
    rw [show (⟨b, off, none⟩ : Addr).add j = ⟨b, off + j, none⟩ by (unfold Addr.add; split; (rename_i h0; subst h0; rfl); rfl)]
    exact (cell_same (h.old b hob.1 hob.2.1)).trans h1
  · intro v' w' hlo hf hgr
    obtain ⟨A', c', rfl⟩ := hlo.form
    rw [List.nil_append] at hlo
    rw [List.nil_append, hlen] at *
    exact hK2.out _ _ _ hB hgz hf hgr (PrX_5.2 ⟨A', c', rfl, hlo⟩)
set_option maxRecDepth 100000 in
set_option maxHeartbeats 4000000 in
theorem stX_6 (h : I23 W N gx g15 v m r listed a w) (c : C23 W N gx g15 v m r) (hl : listed[6]? = some false) : wpOp Tryz.prog opsX Q 6 (fun a' w' => I23 W N gx g15 v m r (listed.setIfInBounds 6 true) a' w') a w := by
  refine wpOp_at (o := .mk (some 120) (.load 41 (.tmp 15)) 41 "ref.go:214" #[] none) rfl ?_
  have hK : Hid (∀ x w', Below w.heap.size w w' → PrX W N gx v m r 6 x w' → I23 W N gx g15 v m r (listed.setIfInBounds 6 true) (a.put (some (6 + 114)) x) w') := Lib.hid (fun x w' hb hx => h.step c (by omega) (by omega) hl hb hx)
  obtain ⟨K, hKe⟩ : ∃ K : Act → World → Prop, K = fun a' w' => I23 W N gx g15 v m r (listed.setIfInBounds 6 true) a' w' := ⟨_, rfl⟩
  have hK2 : Hid (∀ x w', Below w.heap.size w w' → PrX W N gx v m r 6 x w' → K (a.put (some (6 + 114)) x) w') := Lib.hid (by rw [hKe]; exact hK.out)
  rw [← hKe]
  clear hKe hK
  have hz := h.bel.size
  have e1 := h.t15
  rw [ev_eq] at e1
  have hb15 : Blk w g15 41 #[.string (bs r.r.name), .int .i64 r.r.ent, .int .i64 r.r.ext, .slice r.A1 r.r.path.length r.c1, .slice r.A2 r.r.pts.length r.c2, .slice r.A3 r.r.secs.length r.c3, .int .i64 r.r.app, .int .i64 r.r.len, .slice r.A4 r.r.over.length r.c4, .slice r.A5 r.r.opts.length r.c5, .slice r.A6 r.r.osecs.length r.c6, .slice r.A7 r.r.flk.length r.c7, .slice r.A8 r.r.grd.length r.c8, .slice r.A9 r.r.gap.length r.c9] := (h.old g15 c.l15 c.ne).trans c.b15
  have y0 := hb15.cell 0
  have y1 := hb15.cell 1
  have y2 := hb15.cell 2
  have y3 := hb15.cell 3
  have y4 := hb15.cell 4
  have y5 := hb15.cell 5
  have y6 := hb15.cell 6
  have y7 := hb15.cell 7
  have y8 := hb15.cell 8
  have y9 := hb15.cell 9
  have y10 := hb15.cell 10
  have y11 := hb15.cell 11
  have y12 := hb15.cell 12
  have y13 := hb15.cell 13
  simp only [List.getElem?_toArray, List.getElem?_cons_zero, List.getElem?_cons_succ] at y0 y1 y2 y3 y4 y5 y6 y7 y8 y9 y10 y11 y12 y13
  clear h
  go_simp
  exact hK2.out _ _ (Below.refl _ _) (PrX_6.2 rfl)
set_option maxRecDepth 100000 in
set_option maxHeartbeats 4000000 in
theorem stX_7 (h : I23 W N gx g15 v m r listed a w) (c : C23 W N gx g15 v m r) (hl : listed[7]? = some false) (h6 : listed[6]? = some true) : wpOp Tryz.prog opsX Q 7 (fun a' w' => I23 W N gx g15 v m r (listed.setIfInBounds 7 true) a' w') a w := by
  refine wpOp_at (o := .mk (some 121) (.buildSlice 22 1 #[(0, .tmp 120)]) 22 "ref.go:214" #[.mk 6 .data] none) rfl ?_
  have hK : Hid (∀ x w', Below w.heap.size w w' → PrX W N gx v m r 7 x w' → I23 W N gx g15 v m r (listed.setIfInBounds 7 true) (a.put (some (7 + 114)) x) w') := Lib.hid (fun x w' hb hx => h.step c (by omega) (by omega) hl hb hx)
  obtain ⟨K, hKe⟩ : ∃ K : Act → World → Prop, K = fun a' w' => I23 W N gx g15 v m r (listed.setIfInBounds 7 true) a' w' := ⟨_, rfl⟩
  have hK2 : Hid (∀ x w', Below w.heap.size w w' → PrX W N gx v m r 7 x w' → K (a.put (some (7 + 114)) x) w') := Lib.hid (by rw [hKe]; exact hK.out)
  rw [← hKe]
  clear hKe hK
  have hz := h.bel.size
  have e6 : a.eval (.tmp 120) = .agg #[.string (bs r.r.name), .int .i64 r.r.ent, .int .i64 r.r.ext, .slice r.A1 r.r.path.length r.c1, .slice r.A2 r.r.pts.length r.c2, .slice r.A3 r.r.secs.length r.c3, .int .i64 r.r.app, .int .i64 r.r.len, .slice r.A4 r.r.over.length r.c4, .slice r.A5 r.r.opts.length r.c5, .slice r.A6 r.r.osecs.length r.c6, .slice r.A7 r.r.flk.length r.c7, .slice r.A8 r.r.grd.length r.c8, .slice r.A9 r.r.gap.length r.c9] := PrX_6.1 (h.at_ 6 (by omega) h6 (CnX.q (by omega)))
  rw [ev_eq] at e6
  clear h
  go_simp
  exact hK2.out _ _ ((Below.refl _ _).alloc (Nat.le_refl _) _) (PrX_7.2 ⟨_, rfl, hz, Blk.new _ _ _ _ rfl⟩)
set_option maxRecDepth 100000 in
set_option maxHeartbeats 4000000 in
theorem stX_8 (h : I23 W N gx g15 v m r listed a w) (c : C23 W N gx g15 v m r) (hl : listed[8]? = some false) (h5 : listed[5]? = some true) (h7 : listed[7]? = some true) : wpOp Tryz.prog opsX Q 8 (fun a' w' => I23 W N gx g15 v m r (listed.setIfInBounds 8 true) a' w') a w := by
  refine wpOp_at (o := .mk (some 122) (.call (.mk (.builtin .append) #[.tmp 119, .tmp 121] #[22, 22])) 22 "ref.go:214" #[.mk 5 .data, .mk 7 .data, .mk 5 .chain] none) rfl ?_
  have hK : Hid (∀ x w', Frm W.heap.size 41 w w' → PrX W N gx v m r 8 x w' → I23 W N gx g15 v m r (listed.setIfInBounds 8 true) (a.put (some (8 + 114)) x) w') := Lib.hid (fun x w' hf hx => h.step8 c hl h5 hf hx)
  obtain ⟨K, hKe⟩ : ∃ K : Act → World → Prop, K = fun a' w' => I23 W N gx g15 v m r (listed.setIfInBounds 8 true) a' w' := ⟨_, rfl⟩
  have hK2 : Hid (∀ x w', Frm W.heap.size 41 w w' → PrX W N gx v m r 8 x w' → K (a.put (some (8 + 114)) x) w') := Lib.hid (by rw [hKe]; exact hK.out)
  rw [← hKe]
  clear hKe hK
  have hz := h.bel.size
  obtain ⟨A, cc, e5, hlow⟩ : ∃ A c, a.eval (.tmp 119) = .slice A m c ∧ LowS cR w W.heap.size (OutW W N gx) 41 (.slice A m c) (v.t.rts.take m) := PrX_5.1 (h.at_ 5 (by omega) h5 ⟨fun e => by omega, fun _ => hl, fun e => by omega⟩)
  obtain ⟨g, e7, hgz, hB⟩ : ∃ g, a.eval (.tmp 121) = .slice (some ⟨g, 0, none⟩) 1 1 ∧ W.heap.size ≤ g ∧ Blk w g 41 #[.string (bs r.r.name), .int .i64 r.r.ent, .int .i64 r.r.ext, .slice r.A1 r.r.path.length r.c1, .slice r.A2 r.r.pts.length r.c2, .slice r.A3 r.r.secs.length r.c3, .int .i64 r.r.app, .int .i64 r.r.len, .slice r.A4 r.r.over.length r.c4, .slice r.A5 r.r.opts.length r.c5, .slice r.A6 r.r.osecs.length r.c6, .slice r.A7 r.r.flk.length r.c7, .slice r.A8 r.r.grd.length r.c8, .slice r.A9 r.r.gap.length r.c9] := PrX_7.1 (h.at_ 7 (by omega) h7 ⟨fun e => by omega, fun _ => hl, fun e => by omega⟩)
  have hrv : RvR w (OutW W N gx) r := c.rv.keep fun p hp => cell_same (h.old p.block hp.1 hp.2.1)
  have hsm := c.sm
  have hlen : (v.t.rts.take m).length = m := by rw [List.length_take, c.len]; omega
  obtain ⟨i0, hi0, hy0, hy1, hy2⟩ := info_parts infoRouT
  refine step_append_lowS (c := cR) rfl (.tmp 119) (.tmp 121) 22 rfl W.heap.size 41 i0 _ 264 Tryz.underlying22 hi0 hy0 hy1 hy2 rfl (by decide) (OutW W N gx) (fun b h => h.1) _ (v.t.rts.take m) e5 hlow (rouV r) [r.r] ⟨rouV r, [], (List.append_nil _).symm, ⟨r, rfl, rfl, hrv⟩, rfl⟩ (rou_one (w := w) (S := OutW W N gx) _ r.r ⟨r, rfl, rfl, hrv⟩) ⟨g, 0, none⟩ 1 1 rfl e7 (fun j u hj => by rw [own_addr]; exact blk_cells hB j u hj) (by rw [hlen]; simp; omega) (by omega) ?_
  intro v' w' hlo hf hgr
  obtain ⟨A', c', rfl⟩ := hlo.form
  rw [List.length_append, List.length_singleton, hlen] at hlo ⊢
  exact hK2.out _ _ hf (PrX_8.2 ⟨A', c', rfl, hlo⟩)
set_option maxRecDepth 100000 in
set_option maxHeartbeats 4000000 in
theorem stX_9 (h : I23 W N gx g15 v m r listed a w) (c : C23 W N gx g15 v m r) (hl : listed[9]? = some false) : wpOp Tryz.prog opsX Q 9 (fun a' w' => I23 W N gx g15 v m r (listed.setIfInBounds 9 true) a' w') a w := by
  refine wpOp_at (o := .mk (some 123) (.fieldAddr 25 (.tmp 2) 0) 0 "ref.go:214" #[.mk 0 .phase, .mk 1 .phase, .mk 2 .phase, .mk 3 .phase, .mk 4 .phase, .mk 5 .phase, .mk 6 .phase, .mk 7 .phase, .mk 8 .phase] none) rfl ?_
  have hK : Hid (∀ x w', Below w.heap.size w w' → PrX W N gx v m r 9 x w' → I23 W N gx g15 v m r (listed.setIfInBounds 9 true) (a.put (some (9 + 114)) x) w') := Lib.hid (fun x w' hb hx => h.step c (by omega) (by omega) hl hb hx)
  obtain ⟨K, hKe⟩ : ∃ K : Act → World → Prop, K = fun a' w' => I23 W N gx g15 v m r (listed.setIfInBounds 9 true) a' w' := ⟨_, rfl⟩
  have hK2 : Hid (∀ x w', Below w.heap.size w w' → PrX W N gx v m r 9 x w' → K (a.put (some (9 + 114)) x) w') := Lib.hid (by rw [hKe]; exact hK.out)
  rw [← hKe]
  clear hKe hK
  have hz := h.bel.size
  have e2 := h.t2
  rw [ev_eq] at e2
  clear h
  go_simp
  exact hK2.out _ _ (Below.refl _ _) (PrX_9.2 rfl)
set_option maxRecDepth 100000 in
set_option maxHeartbeats 4000000 in
theorem stX_10 (h : I23 W N gx g15 v m r listed a w) (c : C23 W N gx g15 v m r) (hl : listed[10]? = some false) (h9 : listed[9]? = some true) (h8 : listed[8]? = some true) (hall : ∀ j, j < 10 → listed[j]? = some true) : wpOp Tryz.prog opsX Q 10 (fun a' w' => I23 W N gx g15 v m r (listed.setIfInBounds 10 true) a' w') a w := by
  refine wpOp_at (o := .mk none (.store 22 (.tmp 123) (.tmp 122)) 0 "ref.go:214" #[.mk 9 .data, .mk 8 .data, .mk 8 .chain, .mk 0 .phase, .mk 1 .phase, .mk 2 .phase, .mk 3 .phase, .mk 4 .phase, .mk 5 .phase, .mk 6 .phase, .mk 7 .phase, .mk 8 .phase] none) rfl ?_
  have hK : Hid (∀ A cc, LowS cR w W.heap.size (OutW W N gx) 41 (.slice A (m + 1) cc) (v.t.rts.take m ++ [r.r]) → I23 W N gx g15 v m r (listed.setIfInBounds 10 true) a (w.setCell ⟨gx, 0, none⟩ (.slice A (m + 1) cc))) := Lib.hid (fun A cc hx => h.fin c hall hl hx)
  obtain ⟨K, hKe⟩ : ∃ K : Act → World → Prop, K = fun a' w' => I23 W N gx g15 v m r (listed.setIfInBounds 10 true) a' w' := ⟨_, rfl⟩
  have hK2 : Hid (∀ A cc, LowS cR w W.heap.size (OutW W N gx) 41 (.slice A (m + 1) cc) (v.t.rts.take m ++ [r.r]) → K a (w.setCell ⟨gx, 0, none⟩ (.slice A (m + 1) cc))) := Lib.hid (by rw [hKe]; exact hK.out)
  rw [← hKe]
  clear hKe hK
  have hz := h.bel.size
  have e9 : a.eval (.tmp 123) = .pointer (some ⟨gx, 0, none⟩) := PrX_9.1 (h.at_ 9 (by omega) h9 (CnX.q (by omega)))
  obtain ⟨A, cc, e8, hlow⟩ : ∃ A c, a.eval (.tmp 122) = .slice A (m + 1) c ∧ LowS cR w W.heap.size (OutW W N gx) 41 (.slice A (m + 1) c) (v.t.rts.take m ++ [r.r]) := PrX_8.1 (h.at_ 8 (by omega) h8 ⟨fun e => by omega, fun e => by omega, fun _ => hl⟩)
  rw [ev_eq] at e9 e8
  have hb := h.b0 hl
  have x0 := hb.cell 0
  have xf := hb.free 0
  simp only [List.getElem?_toArray, List.getElem?_cons_zero, List.getElem?_cons_succ] at x0
  clear h hb
  go_simp
  exact hK2.out _ _ hlow
end
end Go.Proofs.YtlblfblkallnhaaGreatDoor
