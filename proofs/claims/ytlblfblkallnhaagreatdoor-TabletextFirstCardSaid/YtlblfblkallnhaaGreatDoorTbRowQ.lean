/- An append to a row of the call's own, and which block is turned by it. Over any program. -/
import Derived.Test.YtlblfblkallnhaaGreatDoorTbBase
namespace Go.Proofs.YtlblfblkallnhaaGreatDoor
set_option linter.unusedVariables false
set_option linter.unusedSimpArgs false
open Go.RowKit
theorem own_block {w : World} {base : Nat} {e : TypeId} {size n : Nat} {v : Value} {xs : List Value} (h : w.ownsRow base e size v n xs) : ∀ b, v.ownBlock = some b → base ≤ b := by
  intro b hb
  rcases h.2 with ⟨rfl, _⟩ | ⟨g, cap, cur, rfl, h1, _⟩
  · cases hb
  · exact (Option.some.inj hb) ▸ h1
/-- .. and the new slice lies in the old one's block, or in a new one. -/
theorem own_appendQ {P : Program} (w : World) (base : Nat) (t ty e : TypeId) (i : TypeInfo) (z : Value) (size bytes : Nat) (ht : P.underlying t = some (.slice e)) (hi : P.info? e = some i) (hz : i.zero = some z)
    (hsize : i.size = size) (hby : i.bytes = bytes) (hzs : z.cells.size = size) (hsz : 0 < size) (v : Value) (n : Nat) (xs : List Value) (hown : w.ownsRow base e size v n xs)
    (a : Addr) (m c : Nat) (news : List Value) (hl : news.length = m * size) (hnews : ∀ j u, news[j]? = some u → w.cell? (a.add j) = some u) (h1 : ∀ u ∈ news, u.oneCell' = true)
    (h63 : n + m ≤ maxLen) (hbytes : (n + m) * bytes ≤ 140737488355328) (hbase : base ≤ w.heap.size) :
    ∃ v' w', (Builtin.append_ #[t, t] ty #[v, .slice (some a) m c]).run P w = .ok v' w' ∧ w'.ownsRow base e size v' (n + m) (xs ++ news) ∧ w.grownBy w' v.ownBlock ∧ ∀ b, v'.ownBlock = some b → v.ownBlock = some b ∨ w.heap.size ≤ b := by
  have hw := hown
  rcases hown.2 with ⟨rfl, h0⟩ | ⟨g, cap, cur, rfl, hbg, hg, hnc, hcm, hcs, htake⟩
  · obtain ⟨v', w', h2, h3, h4, _⟩ := run_append_own (P := P) w w.heap.size t ty e i z size bytes ht hi hz hsize hby hzs hsz _ n xs ⟨hw.1, Or.inl ⟨rfl, h0⟩⟩ a m c news hl hnews h1 h63 hbytes (Nat.le_refl _)
    exact ⟨v', w', h2, own_lower h3 hbase, h4, fun b hb => Or.inr (own_block h3 b hb)⟩
  · by_cases hfit : n + m ≤ cap
    · obtain ⟨w', h2, h3, h4⟩ := run_append_fits (P := P) w base t ty e i size ht hi hsize g n cap xs hw a m c news hl hnews h1 hfit
      exact ⟨_, w', h2, h3, h4, fun b hb => Or.inl hb⟩
    · obtain ⟨v', w', h2, h3, h4⟩ := run_append_arg_grows (P := P) w t ty e i z size bytes ht hi hz hsize hby hzs hsz ⟨g, 0, none⟩ n cap xs (by simpa using hw.1) (fun j u hj => by
        have hjl := (List.getElem?_eq_some_iff.1 hj).1
        have hxl : xs.length = n * size := by simpa using hw.1
        rw [own_addr, World.ownsRow.cellAt hw j (by omega), hj]) a m c news hl hnews (by omega) h63 hbytes
      exact ⟨v', w', h2, own_lower h3 hbase, ⟨h4.os, h4.tape, h4.output, h4.size, fun k hk _ => h4.block k hk (by simp)⟩, fun b hb => Or.inr (own_block h3 b hb)⟩
section
variable {P : Program} {α : Type} {c : Cod α}
/-- What is left by an append of one datum. -/
structure AppQ (c : Cod α) (w w' : World) (base : Nat) (e : TypeId) (v v' : Value) (l : List α) : Prop where
  own : OwnR c w' base e v' l w'.heap.size
  frm : Frm base e w w'
  grow : w.grownBy w' v.ownBlock
  blk : ∀ b, v'.ownBlock = some b → v.ownBlock = some b ∨ w.heap.size ≤ b
theorem run_append_q (w : World) (base : Nat) (t ty e : TypeId) (i : TypeInfo) (z : Value) (bytes : Nat) (ht : P.underlying t = some (.slice e)) (hi : P.info? e = some i) (hz : i.zero = some z) (hsize : i.size = c.size) (hby : i.bytes = bytes) (hzs : z.cells.size = c.size) (hc : 0 < c.size)
    (v : Value) (l : List α) (B : Nat) (hown : OwnR c w base e v l B) (ys : List Value) (y : α) (hy : c.rd w (Sep w e w.heap.size) ys y) (h1 : ∀ u ∈ ys, u.oneCell' = true) (ad : Addr) (k : Nat)
    (hcell : ∀ j u, ys[j]? = some u → w.cell? (ad.add j) = some u) (hlen : l.length ≤ 100000) (hbl : bytes ≤ 1000) (hbase : base ≤ w.heap.size) :
    ∃ v' w', (Builtin.append_ #[t, t] ty #[v, .slice (some ad) 1 k]).run P w = .ok v' w' ∧ AppQ c w w' base e v v' (l ++ [y]) := by
  have hyl := c.len hy
  obtain ⟨xs, hown, hrd, hB⟩ := hown.raise (by obtain ⟨_, _, _, h⟩ := hown; exact h) (Nat.le_refl _)
  obtain ⟨v', w', hrun, h2, h3, h4⟩ := own_appendQ (P := P) w base t ty e i z c.size bytes ht hi hz hsize hby hzs hc v l.length xs hown ad 1 k ys (by omega) hcell h1
    (by unfold maxLen; omega) (Nat.le_trans (Nat.mul_le_mul (show l.length + 1 ≤ 1000000 by omega) hbl) (by omega)) hbase
  have hf := frm_of hown h3
  have hs' : ∀ b, Sep w e w.heap.size b → w'.heap[b]? = w.heap[b]? := fun b hb => by
    have hlt : b < w.heap.size := hb.1
    have ho : w.heap[b]? = some w.heap[b] := Array.getElem?_eq_getElem hlt
    rw [hf.obj b _ ho fun cs fr hx => hb.2 cs fr (by rw [ho, hx]), ho]
  have key : RdC c w (Sep w e w.heap.size) (xs ++ ys) (l ++ [y]) := hrd.snoc hy
  exact ⟨v', w', hrun, ⟨xs ++ ys, by rw [List.length_append]; exact h2, (key.keep fun p hp => cell_same (hs' _ hp)).more fun b hb => ⟨Nat.lt_of_lt_of_le hb.1 hf.size, fun cs fr hx => hb.2 cs fr (by rw [← hs' b hb]; exact hx)⟩, Nat.le_refl _⟩, hf, h3, h4⟩
theorem wpList_append_q (w : World) {ops : Array Oper} {rest : List Oper} {o : Oper} {a : Act} {Q : Exit → Act → World → Prop} (hgd : o.guard = none) (s x : Operand) (t : TypeId)
    (ho : o.op = .call { callee := .builtin .append, args := #[s, x], argTypes := #[t, t] })
    (base : Nat) (e : TypeId) (i : TypeInfo) (z : Value) (bytes : Nat) (ht : P.underlying t = some (.slice e)) (hi : P.info? e = some i) (hz : i.zero = some z) (hsize : i.size = c.size) (hby : i.bytes = bytes) (hzs : z.cells.size = c.size) (hc : 0 < c.size)
    (v : Value) (l : List α) (B : Nat) (hs : a.eval s = v) (hown : OwnR c w base e v l B) (ys : List Value) (y : α) (hy : c.rd w (Sep w e w.heap.size) ys y) (h1 : ∀ u ∈ ys, u.oneCell' = true) (ad : Addr) (k : Nat)
    (hx : a.eval x = .slice (some ad) 1 k) (hcell : ∀ j u, ys[j]? = some u → w.cell? (ad.add j) = some u) (hlen : l.length ≤ 100000) (hbl : bytes ≤ 1000) (hbase : base ≤ w.heap.size)
    (h : ∀ v' w', AppQ c w w' base e v v' (l ++ [y]) → wpList P ops Q rest (a.put o.dst v') w') : wpList P ops Q (o :: rest) a w := by
  refine wpList_plain hgd fun K hK => ?_
  obtain ⟨v', w', hrun, hq⟩ := run_append_q (P := P) (c := c) w base t o.type e i z bytes ht hi hz hsize hby hzs hc v l B hown ys y hy h1 ad k hcell hlen hbl hbase
  unfold Oper.wp execOp
  simp only [ho, resolve, invoke, builtin, Sem.run_bind, Sem.run_pure, Result.andThen_ok, List.map_toArray, List.map_cons, List.map_nil, hs, hx, hrun]
  exact hK _ _ (h v' w' hq)
theorem step_append_q {w : World} {ops : Array Oper} {o : Oper} {a : Act} {K : Act → World → Prop} {Q : Exit → Act → World → Prop} {E : Prop} (hgd : o.guard = none) (s x : Operand) (t : TypeId)
    (ho : o.op = .call { callee := .builtin .append, args := #[s, x], argTypes := #[t, t] })
    (base : Nat) (e : TypeId) (i : TypeInfo) (z : Value) (bytes : Nat) (ht : P.underlying t = some (.slice e)) (hi : P.info? e = some i) (hz : i.zero = some z) (hsize : i.size = c.size) (hby : i.bytes = bytes) (hzs : z.cells.size = c.size) (hc : 0 < c.size)
    (v : Value) (l : List α) (B : Nat) (hs : a.eval s = v) (hown : OwnR c w base e v l B) (ys : List Value) (y : α) (hy : c.rd w (Sep w e w.heap.size) ys y) (h1 : ∀ u ∈ ys, u.oneCell' = true) (ad : Addr) (k : Nat)
    (hx : a.eval x = .slice (some ad) 1 k) (hcell : ∀ j u, ys[j]? = some u → w.cell? (ad.add j) = some u) (hlen : l.length ≤ 100000) (hbl : bytes ≤ 1000) (hbase : base ≤ w.heap.size)
    (h : ∀ v' w', AppQ c w w' base e v v' (l ++ [y]) → K (a.put o.dst v') w') : if Region.wanted o (yielded ops a.tmps) = true then Oper.wp P o a w K Q else E := by
  have hw : Region.wanted o (yielded ops a.tmps) = true := by simp [Region.wanted, hgd]
  rw [if_pos hw]
  obtain ⟨v', w', hrun, hq⟩ := run_append_q (P := P) (c := c) w base t o.type e i z bytes ht hi hz hsize hby hzs hc v l B hown ys y hy h1 ad k hcell hlen hbl hbase
  unfold Oper.wp execOp
  simp only [ho, resolve, invoke, builtin, Sem.run_bind, Sem.run_pure, Result.andThen_ok, List.map_toArray, List.map_cons, List.map_nil, hs, hx, hrun]
  exact h v' w' hq
end
section
variable {α β : Type} {c : Cod α} {d : Cod β} {w w' : World} {base base2 : Nat} {e e2 : TypeId} {v v' u : Value} {l l' : List α} {m : List β}
/-- A block that is not the row's stays. -/
theorem AppQ.other (h : AppQ c w w' base e v v' l') {g : Nat} (hg : g < w.heap.size) (hne : v.ownBlock ≠ some g) : w'.heap[g]? = w.heap[g]? := h.grow.block g hg (by intro he; exact hne he.symm)
/-- Another row of one's own that lies elsewhere stays, whatever its type. -/
theorem OwnR.apart (h : OwnR d w base2 e2 u m 0) (hq : AppQ c w w' base e v v' l') (hne : ∀ b, u.ownBlock = some b → v.ownBlock ≠ some b) : OwnR d w' base2 e2 u m 0 := by
  obtain ⟨xs, h1, h2, _⟩ := h
  refine ⟨xs, ⟨h1.1, ?_⟩, (h2.keep fun p hp => absurd hp.1 (Nat.not_lt_zero _)).more fun b hb => absurd hb.1 (Nat.not_lt_zero _), Nat.zero_le _⟩
  rcases h1.2 with h | ⟨g, cap, cur, rfl, h3, h4, h5⟩
  · exact Or.inl h
  · exact Or.inr ⟨g, cap, cur, rfl, h3, (hq.other (lt_heap h4) (hne g rfl)).trans h4, h5⟩
end
end Go.Proofs.YtlblfblkallnhaaGreatDoor
