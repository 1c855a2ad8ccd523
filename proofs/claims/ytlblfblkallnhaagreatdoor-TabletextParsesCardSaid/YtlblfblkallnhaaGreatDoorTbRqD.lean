/- The reference's extended: a table, point or route line. -/
import Derived.Test.YtlblfblkallnhaaGreatDoorTbRqC
import Derived.Test.YtlblfblkallnhaaGreatDoorTbPar
namespace Go.Proofs.YtlblfblkallnhaaGreatDoor
set_option linter.unusedVariables false
set_option linter.unusedSimpArgs false
open Go.RowKit
attribute [local go_sem] bs_size bs_get bs_append bs_extract bs_toList
attribute [-go_sem] run_equalIn_agg
theorem put5_blk {w : World} {g : Nat} {T : TypeId} {b0 b1 b2 b3 b4 : Value} (h : Blk w g T #[b0, b1, b2, b3, b4]) (a b c d e : Value) : Blk (put5 w g a b c d e) g T #[a, b, c, d, e] := by
  unfold put5
  exact ((((h.set 0 a).set 1 b).set 2 c).set 3 d).set 4 e
theorem put5_low {w0 w : World} {B g : Nat} (h : Below B w0 w) (hg : B ≤ g) (a b c d e : Value) : Below B w0 (put5 w g a b c d e) :=
  ((((h.setCell (p := ⟨g, 0, none⟩) hg a).setCell (p := ⟨g, 1, none⟩) hg b).setCell (p := ⟨g, 2, none⟩) hg c).setCell (p := ⟨g, 3, none⟩) hg d).setCell (p := ⟨g, 4, none⟩) hg e
/-- A row of the call's own whose data lead into S alone. -/
def LowS {α : Type} (c : Cod α) (w : World) (base : Nat) (S : Nat → Prop) (e : TypeId) (v : Value) (l : List α) : Prop := ∃ xs, w.ownsRow base e c.size v l.length xs ∧ RdC c w S xs l ∧ base ≤ w.heap.size
theorem LowS.same {α : Type} {c : Cod α} {w w' : World} {base : Nat} {S : Nat → Prop} {e : TypeId} {v : Value} {l : List α} (h : LowS c w base S e v l) (hs : ∀ b, v.ownBlock = some b → w'.heap[b]? = w.heap[b]?) (hk : ∀ b, S b → w'.heap[b]? = w.heap[b]?) (hz : w.heap.size ≤ w'.heap.size) : LowS c w' base S e v l := by
  obtain ⟨xs, h1, h2, h3⟩ := h
  refine ⟨xs, ⟨h1.1, ?_⟩, h2.keep fun p hp => cell_same (hk p.block hp), Nat.le_trans h3 hz⟩
  rcases h1.2 with h | ⟨g, cap, cur, hv, hb, hg, h4⟩
  · exact Or.inl h
  · exact Or.inr ⟨g, cap, cur, hv, hb, (hs g (by rw [hv]; rfl)).trans hg, h4⟩
theorem LowS.lt {α : Type} {c : Cod α} {w : World} {base : Nat} {S : Nat → Prop} {e : TypeId} {v : Value} {l : List α} (h : LowS c w base S e v l) : ∀ b, v.ownBlock = some b → base ≤ b ∧ b < w.heap.size := by
  obtain ⟨xs, h1, _⟩ := h
  exact fun b hb => World.ownsRow.lt h1 b hb
theorem LowS.form {α : Type} {c : Cod α} {w : World} {base : Nat} {S : Nat → Prop} {e : TypeId} {v : Value} {l : List α} (h : LowS c w base S e v l) : ∃ A cap, v = .slice A l.length cap := by
  obtain ⟨xs, h1, _⟩ := h
  rcases h1.2 with ⟨hv, h0⟩ | ⟨g', cap, cur, hv, _⟩
  · exact ⟨none, 0, by rw [hv, h0]⟩
  · exact ⟨_, _, hv⟩
theorem LowS.low {α : Type} {c : Cod α} {w : World} {base : Nat} {S : Nat → Prop} {e : TypeId} {v : Value} {l : List α} (h : LowS c w base S e v l) (hS : ∀ b, S b → b < base) : LowR c w base e v l := by
  obtain ⟨xs, h1, h2, h3⟩ := h
  exact ⟨xs, h1, h2.more hS, h3⟩
theorem LowS.nil_same {α : Type} {c : Cod α} {w w' : World} {base : Nat} {S : Nat → Prop} {e : TypeId} {v : Value} {l : List α} (h : LowS c w base S e v l) (hl : l = []) (hs : ∀ b, v.ownBlock = some b → w'.heap[b]? = w.heap[b]?) (hz : w.heap.size ≤ w'.heap.size) : LowS c w' base S e v l := by
  subst hl
  obtain ⟨xs, h1, h2, h3⟩ := h
  refine ⟨xs, ⟨h1.1, ?_⟩, h2, Nat.le_trans h3 hz⟩
  rcases h1.2 with h | ⟨g, cap, cur, hv, hb, hg, h4⟩
  · exact Or.inl h
  · exact Or.inr ⟨g, cap, cur, hv, hb, (hs g (by rw [hv]; rfl)).trans hg, h4⟩
theorem frm_other {w w' : World} {base b : Nat} {e T : TypeId} {cs : Array Value} (hf : Frm base e w w') (h : w.heap[b]? = some (.cells cs T (0, 0))) (hT : T ≠ e) : w'.heap[b]? = w.heap[b]? := (hf.obj b _ h fun cs' fr hx => by simp only [Obj.cells.injEq] at hx; exact hT hx.2.1).trans h.symm
theorem LowS.ne {α : Type} {c : Cod α} {w : World} {base g : Nat} {S : Nat → Prop} {e T : TypeId} {cs : Array Value} {v : Value} {l : List α} (h : LowS c w base S e v l) (hg : Blk w g T cs) (hT : e ≠ T) : ∀ b, v.ownBlock = some b → b ≠ g := by
  obtain ⟨xs, h1, _⟩ := h
  rintro b hb rfl
  rcases h1.2 with ⟨hv, _⟩ | ⟨g', cap, cur, hv, _, hg', _⟩
  · subst hv; cases hb
  · subst hv
    obtain rfl : g' = b := Option.some.inj hb
    have := hg'.symm.trans hg
    simp only [Option.some.injEq, Obj.cells.injEq] at this
    exact hT this.2.1
theorem LowS.obj {α : Type} {c : Cod α} {w : World} {base : Nat} {S : Nat → Prop} {e : TypeId} {v : Value} {l : List α} (h : LowS c w base S e v l) : ∀ b, v.ownBlock = some b → ∃ cs, w.heap[b]? = some (.cells cs e (0, 0)) := by
  obtain ⟨xs, h1, _⟩ := h
  intro b hb
  rcases h1.2 with ⟨hv, _⟩ | ⟨g', cap, cur, hv, _, hg', _⟩
  · subst hv; cases hb
  · subst hv
    obtain rfl : g' = b := Option.some.inj hb
    exact ⟨cur, hg'⟩
theorem LowS.ble {α : Type} {c : Cod α} {w : World} {base : Nat} {S : Nat → Prop} {e : TypeId} {v : Value} {l : List α} (h : LowS c w base S e v l) : base ≤ w.heap.size := by obtain ⟨_, _, _, h3⟩ := h; exact h3
theorem LowS.more {α : Type} {c : Cod α} {w : World} {base : Nat} {S S' : Nat → Prop} {e : TypeId} {v : Value} {l : List α} (h : LowS c w base S e v l) (hS : ∀ b, S b → S' b) : LowS c w base S' e v l := by
  obtain ⟨xs, h1, h2, h3⟩ := h
  exact ⟨xs, h1, h2.more hS, h3⟩
theorem LowS.rds {α : Type} {c : Cod α} {w : World} {base : Nat} {S S' : Nat → Prop} {e : TypeId} {v : Value} {l : List α} (h : LowS c w base S e v l) (hS : ∀ b, S b → S' b) (hr : ∀ b, v.ownBlock = some b → S' b) : ∃ A cap, v = .slice A l.length cap ∧ (l.length ≤ maxLen ∧ l.length ≤ cap) ∧ RdS c w S' A l := by
  obtain ⟨xs, h1, h2, h3⟩ := h
  rcases h1.2 with ⟨rfl, h0⟩ | ⟨g, cap, cur, rfl, hb, hg, hcap, hm, htake⟩
  · exact ⟨none, 0, by rw [h0], by omega, fun hl => by omega⟩
  · refine ⟨_, _, rfl, ⟨Nat.le_trans hcap hm, hcap⟩, fun _ => ⟨g, 0, rfl, hr g rfl, fun i x hx => ?_⟩⟩
    obtain ⟨ys, h4, h5⟩ := h2.get hx
    refine ⟨ys, c.more h4 hS, fun j u hu => ?_⟩
    have h6 := h5 j u hu
    rw [Nat.zero_add, cell_of_row w g _ cur e (0, 0) hg]
    rw [← htake.2, List.getElem?_take] at h6
    split at h6
    · simpa using h6
    · cases h6
theorem OwnR.ne {α : Type} {c : Cod α} {w : World} {base g B : Nat} {e T : TypeId} {cs : Array Value} {v : Value} {l : List α} (h : OwnR c w base e v l B) (hg : Blk w g T cs) (hT : e ≠ T) : ∀ b, v.ownBlock = some b → b ≠ g := by
  obtain ⟨xs, h1, _⟩ := h
  rintro b hb rfl
  rcases h1.2 with ⟨hv, _⟩ | ⟨g', cap, cur, hv, _, hg', _⟩
  · subst hv; cases hb
  · subst hv
    obtain rfl : g' = b := Option.some.inj hb
    have := hg'.symm.trans hg
    simp only [Option.some.injEq, Obj.cells.injEq] at this
    exact hT this.2.1
theorem OwnR.same0 {α : Type} {c : Cod α} {w w' : World} {base : Nat} {e : TypeId} {v : Value} {l : List α} (h : OwnR c w base e v l 0) (hs : ∀ b, v.ownBlock = some b → w'.heap[b]? = w.heap[b]?) : OwnR c w' base e v l 0 := by
  obtain ⟨xs, h1, h2, _⟩ := h
  refine ⟨xs, ⟨h1.1, ?_⟩, (h2.keep fun p hp => absurd hp.1 (Nat.not_lt_zero _)).more fun b hb => absurd hb.1 (Nat.not_lt_zero _), Nat.zero_le _⟩
  rcases h1.2 with h | ⟨g, cap, cur, hv, hb, hg, h4⟩
  · exact Or.inl h
  · exact Or.inr ⟨g, cap, cur, hv, hb, (hs g (by rw [hv]; rfl)).trans hg, h4⟩
/-- The reference's table while it is read: rows of the call's own, the routes' lists below theirs. -/
structure Xt (w : World) (base : Nat) (N : Nat → Prop) (v : TabV) : Prop where
  r1 : ∃ (B : Nat) (S : Nat → Prop), base ≤ B ∧ (∀ b, S b → b < B ∧ ¬ N b) ∧ LowS cR w B S 41 (.slice v.A1 v.t.rts.length v.c1) v.t.rts
  r2 : OwnR cI w base 3 (.slice v.A2 v.t.pts.length v.c2) v.t.pts 0
  r3 : OwnR cI w base 3 (.slice v.A3 v.t.homes.length v.c3) v.t.homes 0
  ap : ∀ b, (Value.slice v.A2 v.t.pts.length v.c2).ownBlock = some b → (Value.slice v.A3 v.t.homes.length v.c3).ownBlock ≠ some b
  i1 : I64n v.t.nsec
  i2 : I64n v.t.nsig
  le : base ≤ w.heap.size
theorem Xt.now {w w' : World} {base : Nat} {N : Nat → Prop} {v : TabV} (h : Xt w base N v) (hb : Below w.heap.size w w') : Xt w' base N v := by
  obtain ⟨B, S1, h1, hS1, h2⟩ := h.r1
  have hB := h2.ble
  exact ⟨⟨B, S1, h1, hS1, h2.same (fun b hb2 => hb.block b (h2.lt b hb2).2) (fun b hb2 => hb.block b (Nat.lt_of_lt_of_le (hS1 b hb2).1 hB)) hb.size⟩, h.r2.now hb, h.r3.now hb, h.ap, h.i1, h.i2, Nat.le_trans h.le hb.size⟩
theorem Xt.tv {w : World} {base : Nat} {N : Nat → Prop} {v : TabV} (h : Xt w base N v) : TvR w v := by
  obtain ⟨B, S1, h1, hS1, h2⟩ := h.r1
  obtain ⟨A1, c1, e1, n1, d1⟩ := (h2.low fun b hb => (hS1 b hb).1).reads
  obtain ⟨A2, c2, e2, n2, d2⟩ := h.r2.reads2
  obtain ⟨A3, c3, e3, n3, d3⟩ := h.r3.reads2
  simp only [Value.slice.injEq, true_and] at e1 e2 e3
  obtain ⟨rfl, rfl⟩ := e1
  obtain ⟨rfl, rfl⟩ := e2
  obtain ⟨rfl, rfl⟩ := e3
  exact ⟨d1, d2, d3, n1, n2, n3, h.i1, h.i2⟩
def ExtP (w : World) (base : Nat) (N : Nat → Prop) (o : Option Tab) (e : Ending) (w' : World) : Prop := ∃ v : TabV, e = .returned (.tuple #[tvA v, .bool o.isSome]) ∧ Below base w w' ∧ Hid (∀ b cs, Blk w b 25 cs → Blk w' b 25 cs) ∧ Hid (∀ x, o = some x → v.t = x ∧ Xt w' base N v)
theorem rHeads12 {l : List (List UInt8)} {r : Option (List Int)} (h : headsW l 1 2 = r) (A : Option Addr) (cap : Nat) (w : World) (hr : RdS cS w (Lt w) A l) (hl : l.length ≤ 40000) (hw : ∀ x ∈ l, x.length ≤ 40000) : Calls Tryz.prog 66 #[.slice A l.length cap, .int .i64 1, .int .i64 2] w (OptR cI 3 w r) := h ▸ rHeads_any l 1 2 (by omega) (by omega) A cap w hr hl hw
theorem rHeads24 {l : List (List UInt8)} {r : Option (List Int)} (h : headsW l 2 4 = r) (A : Option Addr) (cap : Nat) (w : World) (hr : RdS cS w (Lt w) A l) (hl : l.length ≤ 40000) (hw : ∀ x ∈ l, x.length ≤ 40000) : Calls Tryz.prog 66 #[.slice A l.length cap, .int .i64 2, .int .i64 4] w (OptR cI 3 w r) := h ▸ rHeads_any l 2 4 (by omega) (by omega) A cap w hr hl hw
section
variable {P : Program} {α : Type} {c : Cod α}
/-- An append to a row whose data lead below, out of cells that lie anywhere. -/
theorem run_append_lowS (w : World) (base : Nat) (t ty e : TypeId) (i : TypeInfo) (z : Value) (bytes : Nat) (ht : P.underlying t = some (.slice e)) (hi : P.info? e = some i) (hz : i.zero = some z) (hsize : i.size = c.size) (hby : i.bytes = bytes) (hzs : z.cells.size = c.size) (hc : 0 < c.size)
    (S : Nat → Prop) (hS : ∀ b, S b → b < base) (v : Value) (l : List α) (hown : LowS c w base S e v l) (news : List Value) (l2 : List α) (h3 : RdC c w S news l2) (h1 : ∀ u ∈ news, u.oneCell' = true) (ad : Addr) (k : Nat)
    (h4 : ∀ (j : Nat) (u : Value), news[j]? = some u → w.cell? (ad.add j) = some u) (hlen : l.length + l2.length ≤ 100000) (hbl : bytes ≤ 1000) :
    ∃ v' w', (Builtin.append_ #[t, t] ty #[v, .slice (some ad) l2.length k]).run P w = .ok v' w' ∧ LowS c w' base S e v' (l ++ l2) ∧ Frm base e w w' ∧ w.grownBy w' v.ownBlock := by
  obtain ⟨xs, h5, h6, hbase⟩ := hown
  obtain ⟨v', w', hrun, h7, h8, _⟩ := own_append (P := P) w base t ty e i z c.size bytes ht hi hz hsize hby hzs hc v l.length xs h5 ad l2.length k news h3.len h4 h1
    (by unfold maxLen; omega) (Nat.le_trans (Nat.mul_le_mul (show l.length + l2.length ≤ 1000000 by omega) hbl) (by omega)) hbase
  have hf := frm_of h5 h8
  exact ⟨v', w', hrun, ⟨xs ++ news, by rw [List.length_append]; exact h7, (h6.app h3).keep fun p hp => cell_same (hf.low p.block (hS _ hp) (Nat.lt_of_lt_of_le (hS _ hp) hbase)), Nat.le_trans hbase hf.size⟩, hf, h8⟩
theorem step_append_lowS {w : World} {ops : Array Oper} {o : Oper} {a : Act} {K : Act → World → Prop} {Q : Exit → Act → World → Prop} {E : Prop} (hgd : o.guard = none) (s x : Operand) (t : TypeId)
    (ho : o.op = .call { callee := .builtin .append, args := #[s, x], argTypes := #[t, t] })
    (base : Nat) (e : TypeId) (i : TypeInfo) (z : Value) (bytes : Nat) (ht : P.underlying t = some (.slice e)) (hi : P.info? e = some i) (hz : i.zero = some z) (hsize : i.size = c.size) (hby : i.bytes = bytes) (hzs : z.cells.size = c.size) (hc : 0 < c.size)
    (S : Nat → Prop) (hS : ∀ b, S b → b < base) (v : Value) (l : List α) (hs : a.eval s = v) (hown : LowS c w base S e v l) (news : List Value) (l2 : List α) (h3 : RdC c w S news l2) (h1 : ∀ u ∈ news, u.oneCell' = true) (ad : Addr) (n k : Nat) (hn : n = l2.length)
    (hx : a.eval x = .slice (some ad) n k) (h4 : ∀ (j : Nat) (u : Value), news[j]? = some u → w.cell? (ad.add j) = some u) (hlen : l.length + l2.length ≤ 100000) (hbl : bytes ≤ 1000)
    (h : ∀ v' w', LowS c w' base S e v' (l ++ l2) → Frm base e w w' → w.grownBy w' v.ownBlock → K (a.put o.dst v') w') : if Region.wanted o (yielded ops a.tmps) = true then Oper.wp P o a w K Q else E := by
  subst hn
  have hw : Region.wanted o (yielded ops a.tmps) = true := by simp [Region.wanted, hgd]
  rw [if_pos hw]
  obtain ⟨v', w', hrun, h5, h6, h7⟩ := run_append_lowS (P := P) (c := c) w base t o.type e i z bytes ht hi hz hsize hby hzs hc S hS v l hown news l2 h3 h1 ad k h4 hlen hbl
  unfold Oper.wp execOp
  simp only [ho, resolve, invoke, builtin, Sem.run_bind, Sem.run_pure, Result.andThen_ok, List.map_toArray, List.map_cons, List.map_nil, hs, hx, hrun]
  exact h v' w' h5 h6 h7
end
set_option maxRecDepth 100000 in
set_option maxHeartbeats 8000000 in
theorem rExt_table (v : TabV) (base : Nat) (N : Nat → Prop) (w : World) (hX : Xt w base N v) (a : List (List UInt8)) (A : Option Addr) (cap : Nat) (hrb : RdS cS w (fun k => k < base) A (tableW :: a)) (hl : a.length ≤ 30000) (hw : ∀ x ∈ tableW :: a, x.length ≤ 40000) :
    Calls Tryz.prog 30 #[tvA v, .slice A (tableW :: a).length cap] w (ExtP w base N (headT v.t a)) := by
  have hle := hX.le
  have hr : RdS cS w (Lt w) A (tableW :: a) := hrb.more fun b hb => Nat.lt_of_lt_of_le hb hle
  have HRB := Lib.hid hrb
  clear hrb
  have hbx : Blk ((w.alloc (.cells #[.slice v.A1 v.t.rts.length v.c1, .slice v.A2 v.t.pts.length v.c2, .slice v.A3 v.t.homes.length v.c3, .int .i64 v.t.nsec, .int .i64 v.t.nsig] 25)).alloc (.cells #[.slice none 0 0, .slice none 0 0, .slice none 0 0, .int .i64 0, .int .i64 0] 25)) w.heap.size 25 #[.slice v.A1 v.t.rts.length v.c1, .slice v.A2 v.t.pts.length v.c2, .slice v.A3 v.t.homes.length v.c3, .int .i64 v.t.nsec, .int .i64 v.t.nsig] := (Blk.new _ _ _ _ rfl).alloc _
  have hbz : Blk ((w.alloc (.cells #[.slice v.A1 v.t.rts.length v.c1, .slice v.A2 v.t.pts.length v.c2, .slice v.A3 v.t.homes.length v.c3, .int .i64 v.t.nsec, .int .i64 v.t.nsig] 25)).alloc (.cells #[.slice none 0 0, .slice none 0 0, .slice none 0 0, .int .i64 0, .int .i64 0] 25)) (w.heap.size + 1) 25 #[.slice none 0 0, .slice none 0 0, .slice none 0 0, .int .i64 0, .int .i64 0] := Blk.new _ _ _ _ (by simp)
  have hB0 : Below w.heap.size w ((w.alloc (.cells #[.slice v.A1 v.t.rts.length v.c1, .slice v.A2 v.t.pts.length v.c2, .slice v.A3 v.t.homes.length v.c3, .int .i64 v.t.nsec, .int .i64 v.t.nsig] 25)).alloc (.cells #[.slice none 0 0, .slice none 0 0, .slice none 0 0, .int .i64 0, .int .i64 0] 25)) := ((Below.refl _ _).alloc (Nat.le_refl _) _).alloc (by simp) _
  have hz0 : ((w.alloc (.cells #[.slice v.A1 v.t.rts.length v.c1, .slice v.A2 v.t.pts.length v.c2, .slice v.A3 v.t.homes.length v.c3, .int .i64 v.t.nsec, .int .i64 v.t.nsig] 25)).alloc (.cells #[.slice none 0 0, .slice none 0 0, .slice none 0 0, .int .i64 0, .int .i64 0] 25)).heap.size = w.heap.size + 2 := by simp
  obtain ⟨b, off, rfl, lb, -, y0⟩ := (hr.now hB0).elS (i := 0) (by simp)
  obtain ⟨r, hx⟩ : ∃ r, headsW (tableW :: a) 1 2 = r := ⟨_, rfl⟩
  have HC := Lib.hid (rHeads12 hx (some ⟨b, off, none⟩) cap ((w.alloc (.cells #[.slice v.A1 v.t.rts.length v.c1, .slice v.A2 v.t.pts.length v.c2, .slice v.A3 v.t.homes.length v.c3, .int .i64 v.t.nsec, .int .i64 v.t.nsig] 25)).alloc (.cells #[.slice none 0 0, .slice none 0 0, .slice none 0 0, .int .i64 0, .int .i64 0] 25)) (hr.now hB0) (by simp; omega) hw)
  have HLE := Lib.hid fun ns (e : r = some ns) => headsW_len (hx.trans e)
  simp only [List.getElem_cons_zero, Nat.add_zero] at y0
  unfold tableW at y0
  simp only [List.length_cons] at HC ⊢
  unfold tvA
  clear hr hw
  cases r with
  | none =>
    have HX := Lib.hid ((headT_heads (t := v.t) (w := tableW) (a := a)).trans (by rw [hx]; try rfl))
    clear hx
    go_enter Tryz.func30, Tryz.ntmps30
    go_wp2_with fail
    refine HC.out.mono ?_
    rintro e w2 ⟨A6, c6, l6, rfl, hr6, hq, hl6⟩
    have hx2 := hbx.now hq
    have hz2 := hbz.now hq
    have hB2 := bel_then hB0 (by omega) hq
    have hX2 := hX.now hB2
    have hs2 := hq.size
    clear hbx hbz
    have x0 := hx2.cell 0
    have z0 := hz2.cell 0
    have x1 := hx2.cell 1
    have z1 := hz2.cell 1
    have x2 := hx2.cell 2
    have z2 := hz2.cell 2
    have x3 := hx2.cell 3
    have z3 := hz2.cell 3
    have x4 := hx2.cell 4
    have z4 := hz2.cell 4
    simp only [List.getElem?_toArray, List.getElem?_cons_zero, List.getElem?_cons_succ] at x0 x1 x2 x3 x4 z0 z1 z2 z3 z4
    have zf := hz2.free
    have yf := hx2.free
    have HP := Lib.hid ((⟨v, by rw [HX.out]; rfl, put5_low (hB2.mono hle) (show base ≤ w.heap.size + 1 by omega) (.slice v.A1 v.t.rts.length v.c1) (.slice v.A2 v.t.pts.length v.c2) (.slice v.A3 v.t.homes.length v.c3) (.int .i64 v.t.nsec) (.int .i64 v.t.nsig), Lib.hid (fun b cs h => h.now (put5_low hB2 (Nat.le_succ _) _ _ _ _ _)), Lib.hid fun x hx => by rw [HX.out] at hx; cases hx⟩ : ExtP w base N (headT v.t a) (.returned (.tuple #[.agg #[.slice v.A1 v.t.rts.length v.c1, .slice v.A2 v.t.pts.length v.c2, .slice v.A3 v.t.homes.length v.c3, .int .i64 v.t.nsec, .int .i64 v.t.nsig], .bool false])) (put5 w2 (w.heap.size + 1) (.slice v.A1 v.t.rts.length v.c1) (.slice v.A2 v.t.pts.length v.c2) (.slice v.A3 v.t.homes.length v.c3) (.int .i64 v.t.nsec) (.int .i64 v.t.nsig))))
    clear hx2 hz2 hB2 hX2 hr6 hl6 hq
    go_wp2_with fail
    exact bodyPost_ret (v := .tuple #[.agg #[.slice v.A1 v.t.rts.length v.c1, .slice v.A2 v.t.pts.length v.c2, .slice v.A3 v.t.homes.length v.c3, .int .i64 v.t.nsec, .int .i64 v.t.nsig], .bool false]) (by simp [results, Tryz.results30, go_sem, z0, z1, z2, z3, z4]) rfl HP.out
  | some ns =>
    match ns, (HLE.out ns rfl).1 with
    | [n0, n1], _ =>
    have HX := Lib.hid ((headT_heads (t := v.t) (w := tableW) (a := a)).trans (by rw [hx]; try rfl))
    clear hx
    go_enter Tryz.func30, Tryz.ntmps30
    go_wp2_with fail
    refine HC.out.mono ?_
    rintro e w2 ⟨A6, c6, l6, rfl, hr6, hq, hl6⟩
    have hx2 := hbx.now hq
    have hz2 := hbz.now hq
    have hB2 := bel_then hB0 (by omega) hq
    have hX2 := hX.now hB2
    have hs2 := hq.size
    clear hbx hbz
    obtain rfl := hl6.out _ rfl
    obtain ⟨b6, c6', h6, h6c⟩ := own_ints hr6 (by simp)
    simp only [Value.slice.injEq] at h6
    obtain ⟨rfl, _, rfl⟩ := h6
    have hn0 := (own_cellI hr6 (i := 0) (by simp)).2
    have hn1 := (own_cellI hr6 (i := 1) (by simp)).2
    simp only [List.getElem_cons_zero, List.getElem_cons_succ, List.length_cons, List.length_nil, Nat.zero_add] at hn0 hn1 hr6 h6c ⊢
    have hb6 : w.heap.size + 2 ≤ b6 := by obtain ⟨xs, hx6, _⟩ := hr6; have := own_block hx6 b6 rfl; omega
    have hgb : w.heap.size ≠ b6 := by omega
    have hgb' : b6 ≠ w.heap.size := by omega
    have hgc : w.heap.size + 1 ≠ b6 := by omega
    have hgc' : b6 ≠ w.heap.size + 1 := by omega
    have q0 := cI_at hr6 0 2
    have q1 := cI_at hr6 1 2
    have HBW : Below w.heap.size w (put5 ((w2.setCell ⟨w.heap.size, 3, none⟩ (.int .i64 n0)).setCell ⟨w.heap.size, 4, none⟩ (.int .i64 n1)) (w.heap.size + 1) (.slice v.A1 v.t.rts.length v.c1) (.slice v.A2 v.t.pts.length v.c2) (.slice v.A3 v.t.homes.length v.c3) (.int .i64 n0) (.int .i64 n1)) := put5_low ((hB2.setCell (p := ⟨w.heap.size, 3, none⟩) (Nat.le_refl _) _).setCell (p := ⟨w.heap.size, 4, none⟩) (Nat.le_refl _) _) (Nat.le_succ _) _ _ _ _ _
    have hXW := hX.now HBW
    have hXV : Xt (put5 ((w2.setCell ⟨w.heap.size, 3, none⟩ (.int .i64 n0)).setCell ⟨w.heap.size, 4, none⟩ (.int .i64 n1)) (w.heap.size + 1) (.slice v.A1 v.t.rts.length v.c1) (.slice v.A2 v.t.pts.length v.c2) (.slice v.A3 v.t.homes.length v.c3) (.int .i64 n0) (.int .i64 n1)) base N { v with t := { v.t with nsec := n0, nsig := n1 } } := ⟨hXW.r1, hXW.r2, hXW.r3, hXW.ap, hn0, hn1, hXW.le⟩
    have x0 := hx2.cell 0
    have z0 := hz2.cell 0
    have x1 := hx2.cell 1
    have z1 := hz2.cell 1
    have x2 := hx2.cell 2
    have z2 := hz2.cell 2
    have x3 := hx2.cell 3
    have z3 := hz2.cell 3
    have x4 := hx2.cell 4
    have z4 := hz2.cell 4
    simp only [List.getElem?_toArray, List.getElem?_cons_zero, List.getElem?_cons_succ] at x0 x1 x2 x3 x4 z0 z1 z2 z3 z4
    have zf := hz2.free
    have yf := hx2.free
    have HP := Lib.hid ((⟨{ v with t := { v.t with nsec := n0, nsig := n1 } }, by rw [HX.out]; rfl, HBW.mono hle, Lib.hid (fun b cs h => h.now HBW), Lib.hid fun x hx => by rw [HX.out] at hx; cases hx; exact ⟨rfl, hXV⟩⟩ : ExtP w base N (headT v.t a) (.returned (.tuple #[.agg #[.slice v.A1 v.t.rts.length v.c1, .slice v.A2 v.t.pts.length v.c2, .slice v.A3 v.t.homes.length v.c3, .int .i64 n0, .int .i64 n1], .bool true])) (put5 ((w2.setCell ⟨w.heap.size, 3, none⟩ (.int .i64 n0)).setCell ⟨w.heap.size, 4, none⟩ (.int .i64 n1)) (w.heap.size + 1) (.slice v.A1 v.t.rts.length v.c1) (.slice v.A2 v.t.pts.length v.c2) (.slice v.A3 v.t.homes.length v.c3) (.int .i64 n0) (.int .i64 n1))))
    clear hx2 hz2 hB2 hX2 hr6 hl6 hq HBW hXW hXV
    go_wp2_with fail
    exact bodyPost_ret (v := .tuple #[.agg #[.slice v.A1 v.t.rts.length v.c1, .slice v.A2 v.t.pts.length v.c2, .slice v.A3 v.t.homes.length v.c3, .int .i64 n0, .int .i64 n1], .bool true]) (by simp [results, Tryz.results30, go_sem, z0, z1, z2, z3, z4]) rfl HP.out
end Go.Proofs.YtlblfblkallnhaaGreatDoor
