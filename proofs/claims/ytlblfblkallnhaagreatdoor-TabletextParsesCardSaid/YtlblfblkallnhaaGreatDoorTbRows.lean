/- An append to a row of the call's own, and which block is turned by it. Over any program. Rows of routes that the call itself makes, whose lists lie in blocks of the call's own too: one more route, and one list of the last route set. -/
import Derived.Test.YtlblfblkallnhaaGreatDoorTbBase
import Derived.Test.YtlblfblkallnhaaGreatDoorTbCod
namespace Go.Proofs.YtlblfblkallnhaaGreatDoor
set_option linter.unusedVariables false
set_option linter.unusedSimpArgs false
open Go.RowKit
theorem own_block {w : World} {base : Nat} {e : TypeId} {size n : Nat} {v : Value} {xs : List Value} (h : w.ownsRow base e size v n xs) : ∀ b, v.ownBlock = some b → base ≤ b := by
  intro b hb
  rcases h.2 with ⟨rfl, _⟩ | ⟨g, cap, cur, rfl, h1, _⟩
  · cases hb
  · exact (Option.some.inj hb) ▸ h1
/-- .. and the new slice lies in the old one's block, or in a new one. -/
theorem own_appendQ {P : Program} (w : World) (base : Nat) (t ty e : TypeId) (i : TypeInfo) (z : Value) (size bytes : Nat) (ht : P.underlying t = some (.slice e)) (hi : P.info? e = some i) (hz : i.zero = some z)
    (hsize : i.size = size) (hby : i.bytes = bytes) (hzs : z.cells.size = size) (hsz : 0 < size) (v : Value) (n : Nat) (xs : List Value) (hown : w.ownsRow base e size v n xs)
    (a : Addr) (m c : Nat) (news : List Value) (hl : news.length = m * size) (hnews : ∀ j u, news[j]? = some u → w.cell? (a.add j) = some u) (h1 : ∀ u ∈ news, u.oneCell' = true)
    (h63 : n + m ≤ maxLen) (hbytes : (n + m) * bytes ≤ 140737488355328) (hbase : base ≤ w.heap.size) :
    ∃ v' w', (Builtin.append_ #[t, t] ty #[v, .slice (some a) m c]).run P w = .ok v' w' ∧ w'.ownsRow base e size v' (n + m) (xs ++ news) ∧ w.grownBy w' v.ownBlock ∧ ∀ b, v'.ownBlock = some b → v.ownBlock = some b ∨ w.heap.size ≤ b := by
  have hw := hown
  rcases hown.2 with ⟨rfl, h0⟩ | ⟨g, cap, cur, rfl, hbg, hg, hnc, hcm, hcs, htake⟩
  · obtain ⟨v', w', h2, h3, h4, _⟩ := run_append_own (P := P) w w.heap.size t ty e i z size bytes ht hi hz hsize hby hzs hsz _ n xs ⟨hw.1, Or.inl ⟨rfl, h0⟩⟩ a m c news hl hnews h1 h63 hbytes (Nat.le_refl _)
    exact ⟨v', w', h2, own_lower h3 hbase, h4, fun b hb => Or.inr (own_block h3 b hb)⟩
  · by_cases hfit : n + m ≤ cap
    · obtain ⟨w', h2, h3, h4⟩ := run_append_fits (P := P) w base t ty e i size ht hi hsize g n cap xs hw a m c news hl hnews h1 hfit
      exact ⟨_, w', h2, h3, h4, fun b hb => Or.inl hb⟩
    · obtain ⟨v', w', h2, h3, h4⟩ := run_append_arg_grows (P := P) w t ty e i z size bytes ht hi hz hsize hby hzs hsz ⟨g, 0, none⟩ n cap xs (by simpa using hw.1) (fun j u hj => by
        have hjl := (List.getElem?_eq_some_iff.1 hj).1
        have hxl : xs.length = n * size := by simpa using hw.1
        rw [own_addr, World.ownsRow.cellAt hw j (by omega), hj]) a m c news hl hnews (by omega) h63 hbytes
      exact ⟨v', w', h2, own_lower h3 hbase, ⟨h4.os, h4.tape, h4.output, h4.size, fun k hk _ => h4.block k hk (by simp)⟩, fun b hb => Or.inr (own_block h3 b hb)⟩
section
variable {P : Program} {α : Type} {c : Cod α}
/-- What is left by an append of one datum. -/
structure AppQ (c : Cod α) (w w' : World) (base : Nat) (e : TypeId) (v v' : Value) (l : List α) : Prop where
  own : OwnR c w' base e v' l w'.heap.size
  frm : Frm base e w w'
  grow : w.grownBy w' v.ownBlock
  blk : ∀ b, v'.ownBlock = some b → v.ownBlock = some b ∨ w.heap.size ≤ b
theorem run_append_q (w : World) (base : Nat) (t ty e : TypeId) (i : TypeInfo) (z : Value) (bytes : Nat) (ht : P.underlying t = some (.slice e)) (hi : P.info? e = some i) (hz : i.zero = some z) (hsize : i.size = c.size) (hby : i.bytes = bytes) (hzs : z.cells.size = c.size) (hc : 0 < c.size)
    (v : Value) (l : List α) (B : Nat) (hown : OwnR c w base e v l B) (ys : List Value) (y : α) (hy : c.rd w (Sep w e w.heap.size) ys y) (h1 : ∀ u ∈ ys, u.oneCell' = true) (ad : Addr) (k : Nat)
    (hcell : ∀ j u, ys[j]? = some u → w.cell? (ad.add j) = some u) (hlen : l.length ≤ 100000) (hbl : bytes ≤ 1000) (hbase : base ≤ w.heap.size) :
    ∃ v' w', (Builtin.append_ #[t, t] ty #[v, .slice (some ad) 1 k]).run P w = .ok v' w' ∧ AppQ c w w' base e v v' (l ++ [y]) := by
  have hyl := c.len hy
  obtain ⟨xs, hown, hrd, hB⟩ := hown.raise (by obtain ⟨_, _, _, h⟩ := hown; exact h) (Nat.le_refl _)
  obtain ⟨v', w', hrun, h2, h3, h4⟩ := own_appendQ (P := P) w base t ty e i z c.size bytes ht hi hz hsize hby hzs hc v l.length xs hown ad 1 k ys (by omega) hcell h1
    (by unfold maxLen; omega) (Nat.le_trans (Nat.mul_le_mul (show l.length + 1 ≤ 1000000 by omega) hbl) (by omega)) hbase
  have hf := frm_of hown h3
  have hs' : ∀ b, Sep w e w.heap.size b → w'.heap[b]? = w.heap[b]? := fun b hb => by
    have hlt : b < w.heap.size := hb.1
    have ho : w.heap[b]? = some w.heap[b] := Array.getElem?_eq_getElem hlt
    rw [hf.obj b _ ho fun cs fr hx => hb.2 cs fr (by rw [ho, hx]), ho]
  have key : RdC c w (Sep w e w.heap.size) (xs ++ ys) (l ++ [y]) := hrd.snoc hy
  exact ⟨v', w', hrun, ⟨xs ++ ys, by rw [List.length_append]; exact h2, (key.keep fun p hp => cell_same (hs' _ hp)).more fun b hb => ⟨Nat.lt_of_lt_of_le hb.1 hf.size, fun cs fr hx => hb.2 cs fr (by rw [← hs' b hb]; exact hx)⟩, Nat.le_refl _⟩, hf, h3, h4⟩
theorem wpList_append_q (w : World) {ops : Array Oper} {rest : List Oper} {o : Oper} {a : Act} {Q : Exit → Act → World → Prop} (hgd : o.guard = none) (s x : Operand) (t : TypeId)
    (ho : o.op = .call { callee := .builtin .append, args := #[s, x], argTypes := #[t, t] })
    (base : Nat) (e : TypeId) (i : TypeInfo) (z : Value) (bytes : Nat) (ht : P.underlying t = some (.slice e)) (hi : P.info? e = some i) (hz : i.zero = some z) (hsize : i.size = c.size) (hby : i.bytes = bytes) (hzs : z.cells.size = c.size) (hc : 0 < c.size)
    (v : Value) (l : List α) (B : Nat) (hs : a.eval s = v) (hown : OwnR c w base e v l B) (ys : List Value) (y : α) (hy : c.rd w (Sep w e w.heap.size) ys y) (h1 : ∀ u ∈ ys, u.oneCell' = true) (ad : Addr) (k : Nat)
    (hx : a.eval x = .slice (some ad) 1 k) (hcell : ∀ j u, ys[j]? = some u → w.cell? (ad.add j) = some u) (hlen : l.length ≤ 100000) (hbl : bytes ≤ 1000) (hbase : base ≤ w.heap.size)
    (h : ∀ v' w', AppQ c w w' base e v v' (l ++ [y]) → wpList P ops Q rest (a.put o.dst v') w') : wpList P ops Q (o :: rest) a w := by
  refine wpList_plain hgd fun K hK => ?_
  obtain ⟨v', w', hrun, hq⟩ := run_append_q (P := P) (c := c) w base t o.type e i z bytes ht hi hz hsize hby hzs hc v l B hown ys y hy h1 ad k hcell hlen hbl hbase
  unfold Oper.wp execOp
  simp only [ho, resolve, invoke, builtin, Sem.run_bind, Sem.run_pure, Result.andThen_ok, List.map_toArray, List.map_cons, List.map_nil, hs, hx, hrun]
  exact hK _ _ (h v' w' hq)
theorem step_append_q {w : World} {ops : Array Oper} {o : Oper} {a : Act} {K : Act → World → Prop} {Q : Exit → Act → World → Prop} {E : Prop} (hgd : o.guard = none) (s x : Operand) (t : TypeId)
    (ho : o.op = .call { callee := .builtin .append, args := #[s, x], argTypes := #[t, t] })
    (base : Nat) (e : TypeId) (i : TypeInfo) (z : Value) (bytes : Nat) (ht : P.underlying t = some (.slice e)) (hi : P.info? e = some i) (hz : i.zero = some z) (hsize : i.size = c.size) (hby : i.bytes = bytes) (hzs : z.cells.size = c.size) (hc : 0 < c.size)
    (v : Value) (l : List α) (B : Nat) (hs : a.eval s = v) (hown : OwnR c w base e v l B) (ys : List Value) (y : α) (hy : c.rd w (Sep w e w.heap.size) ys y) (h1 : ∀ u ∈ ys, u.oneCell' = true) (ad : Addr) (k : Nat)
    (hx : a.eval x = .slice (some ad) 1 k) (hcell : ∀ j u, ys[j]? = some u → w.cell? (ad.add j) = some u) (hlen : l.length ≤ 100000) (hbl : bytes ≤ 1000) (hbase : base ≤ w.heap.size)
    (h : ∀ v' w', AppQ c w w' base e v v' (l ++ [y]) → K (a.put o.dst v') w') : if Region.wanted o (yielded ops a.tmps) = true then Oper.wp P o a w K Q else E := by
  have hw : Region.wanted o (yielded ops a.tmps) = true := by simp [Region.wanted, hgd]
  rw [if_pos hw]
  obtain ⟨v', w', hrun, hq⟩ := run_append_q (P := P) (c := c) w base t o.type e i z bytes ht hi hz hsize hby hzs hc v l B hown ys y hy h1 ad k hcell hlen hbl hbase
  unfold Oper.wp execOp
  simp only [ho, resolve, invoke, builtin, Sem.run_bind, Sem.run_pure, Result.andThen_ok, List.map_toArray, List.map_cons, List.map_nil, hs, hx, hrun]
  exact h v' w' hq
end
section
variable {α β : Type} {c : Cod α} {d : Cod β} {w w' : World} {base base2 : Nat} {e e2 : TypeId} {v v' u : Value} {l l' : List α} {m : List β}
/-- A block that is not the row's stays. -/
theorem AppQ.other (h : AppQ c w w' base e v v' l') {g : Nat} (hg : g < w.heap.size) (hne : v.ownBlock ≠ some g) : w'.heap[g]? = w.heap[g]? := h.grow.block g hg (by intro he; exact hne he.symm)
/-- Another row of one's own that lies elsewhere stays, whatever its type. -/
theorem OwnR.apart (h : OwnR d w base2 e2 u m 0) (hq : AppQ c w w' base e v v' l') (hne : ∀ b, u.ownBlock = some b → v.ownBlock ≠ some b) : OwnR d w' base2 e2 u m 0 := by
  obtain ⟨xs, h1, h2, _⟩ := h
  refine ⟨xs, ⟨h1.1, ?_⟩, (h2.keep fun p hp => absurd hp.1 (Nat.not_lt_zero _)).more fun b hb => absurd hb.1 (Nat.not_lt_zero _), Nat.zero_le _⟩
  rcases h1.2 with h | ⟨g, cap, cur, rfl, h3, h4, h5⟩
  · exact Or.inl h
  · exact Or.inr ⟨g, cap, cur, rfl, h3, (hq.other (lt_heap h4) (hne g rfl)).trans h4, h5⟩
end
end Go.Proofs.YtlblfblkallnhaaGreatDoor
namespace Go.Proofs.YtlblfblkallnhaaGreatDoor
set_option linter.unusedVariables false
set_option linter.unusedSimpArgs false
open Go.RowKit
section
variable {α : Type} {c : Cod α} {w w' : World} {S : Nat → Prop}
theorem RdC.unsnoc : ∀ {l : List α} {a : α} {xs : List Value}, RdC c w S xs (l ++ [a]) → ∃ ys zs, xs = ys ++ zs ∧ RdC c w S ys l ∧ c.rd w S zs a
  | [], a, xs, ⟨y, z, h1, h2, h3⟩ => by
    simp only [RdC] at h3
    subst h3
    exact ⟨[], y, by simpa using h1, rfl, h2⟩
  | b :: l, a, xs, ⟨y, z, h1, h2, h3⟩ => by
    obtain ⟨ys, zs, h4, h5, h6⟩ := RdC.unsnoc (l := l) h3
    exact ⟨y ++ ys, zs, by rw [h1, h4, List.append_assoc], ⟨y, ys, rfl, h2, h5⟩, h6⟩
/-- The blocks from base on that are no rows of elements of type e. -/
def SepT (w : World) (base : Nat) (e : TypeId) : Nat → Prop := fun b => base ≤ b ∧ b < w.heap.size ∧ ∀ cs fr, w.heap[b]? ≠ some (.cells cs e fr)
/-- A row of the call's own from block base on, what its elements lead to likewise. -/
def OwnT (c : Cod α) (w : World) (base : Nat) (e : TypeId) (v : Value) (l : List α) : Prop := ∃ xs, w.ownsRow base e c.size v l.length xs ∧ RdC c w (SepT w base e) xs l
variable {base : Nat} {e : TypeId} {v : Value} {l : List α}
theorem OwnT.nil (c : Cod α) (w : World) (base : Nat) (e : TypeId) : OwnT c w base e (.slice none 0 0) ([] : List α) := ⟨[], World.ownsRow_nil w base e c.size, rfl⟩
theorem sepT_same (hs : ∀ b, SepT w base e b → w'.heap[b]? = w.heap[b]?) (hz : w.heap.size ≤ w'.heap.size) : ∀ b, SepT w base e b → SepT w' base e b := fun b hb => ⟨hb.1, Nat.lt_of_lt_of_le hb.2.1 hz, fun cs fr he => hb.2.2 cs fr (by rw [← hs b hb]; exact he)⟩
theorem RdC.sepT {xs : List Value} (h : RdC c w (SepT w base e) xs l) (hs : ∀ b, SepT w base e b → w'.heap[b]? = w.heap[b]?) (hz : w.heap.size ≤ w'.heap.size) : RdC c w' (SepT w' base e) xs l :=
  (h.keep fun p hp => cell_same (hs _ hp)).more (sepT_same hs hz)
theorem OwnT.now (h : OwnT c w base e v l) (hb : Below w.heap.size w w') : OwnT c w' base e v l := by
  obtain ⟨xs, h1, h2⟩ := h
  refine ⟨xs, World.ownsRow.kept h1 (row := none) ⟨hb.os, hb.tape, hb.output, hb.size, fun i hi _ => hb.block i hi⟩ (by cases hv : v.ownBlock <;> simp), ?_⟩
  exact h2.sepT (fun b hb' => hb.block b hb'.2.1) hb.size
theorem OwnT.form (h : OwnT c w base e v l) : ∃ A cap, v = .slice A l.length cap := by
  obtain ⟨xs, h, _⟩ := h
  rcases h.2 with ⟨rfl, h0⟩ | ⟨g, cap, cur, rfl, _⟩
  · rw [h0]; exact ⟨_, _, rfl⟩
  · exact ⟨_, _, rfl⟩
/-- A cell of a block below base is set. -/
theorem OwnT.setLow (h : OwnT c w base e v l) {p : Addr} (hp : p.block < base) (u : Value) : OwnT c (w.setCell p u) base e v l := by
  obtain ⟨xs, h1, h2⟩ := h
  have hs : ∀ k, base ≤ k → (w.setCell p u).heap[k]? = w.heap[k]? := fun k hk => Below.heap_setCell _ _ _ _ (by omega)
  refine ⟨xs, ⟨h1.1, ?_⟩, h2.sepT (fun b hb => hs b hb.1) (by simp [World.setCell])⟩
  rcases h1.2 with h | ⟨g, cap, cur, hv, hb, hg, h3⟩
  · exact Or.inl h
  · exact Or.inr ⟨g, cap, cur, hv, hb, (hs g hb).trans hg, h3⟩
/-- A cell of the last element of a row is set. -/
theorem OwnT.setLast {a a' : α} (h : OwnT c w base e v (l ++ [a])) (j : Nat) (u : Value)
    (hr : ∀ ys, c.rd w (SepT w base e) ys a → c.rd w (SepT w base e) (ys.set j u) a') (hj : j < c.size) :
    ∃ g cap cur, v = .slice (some ⟨g, 0, none⟩) (l.length + 1) cap ∧ base ≤ g ∧ Blk w g e cur ∧ l.length + 1 ≤ maxLen ∧ l.length + 1 ≤ cap ∧ OwnT c (w.setCell ⟨g, l.length * c.size + j, none⟩ u) base e v (l ++ [a']) := by
  obtain ⟨xs, h1, h2⟩ := h
  rw [List.length_append, List.length_singleton] at h1
  rcases h1.2 with ⟨_, h0⟩ | ⟨g, cap, cur, rfl, hb, hg, hnc, hcm, hcs, htake⟩
  · omega
  obtain ⟨ys, zs, rfl, h4, h5⟩ := h2.unsnoc
  have hyl := h4.len
  have hzl := c.len h5
  refine ⟨g, cap, cur, rfl, hb, hg, Nat.le_trans hnc hcm, hnc, ?_⟩
  have hs : ∀ k, k ≠ g → (w.setCell ⟨g, l.length * c.size + j, none⟩ u).heap[k]? = w.heap[k]? := fun k hk => Below.heap_setCell _ _ _ _ hk
  have hb' : (w.setCell ⟨g, l.length * c.size + j, none⟩ u).heap[g]? = some (.cells (cur.setIfInBounds (l.length * c.size + j) u) e (0, 0)) := Blk.set (w := w) (g := g) (t := e) (cs := cur) hg _ _
  have hsep : ∀ b, SepT w base e b → b ≠ g := fun b hsb he => hsb.2.2 _ _ (he ▸ hg)
  refine ⟨ys ++ zs.set j u, ⟨?_, Or.inr ⟨g, cap, cur.setIfInBounds (l.length * c.size + j) u, ?_, hb, hb', ?_, hcm, by rw [Array.size_setIfInBounds]; exact hcs, ?_⟩⟩, ?_⟩
  · rw [List.length_append, List.length_set, List.length_append, List.length_singleton, hyl, hzl, Nat.add_mul]; omega
  · rw [List.length_append, List.length_singleton]
  · rw [List.length_append, List.length_singleton]; exact hnc
  · rw [List.length_append, List.length_singleton, Array.toList_setIfInBounds, List.take_set, htake, List.set_append, if_neg (by rw [hyl]; omega), hyl, show l.length * c.size + j - l.length * c.size = j by omega]
  · have key : RdC c w (SepT w base e) (ys ++ zs.set j u) (l ++ [a']) := h4.snoc (hr zs h5)
    exact key.sepT (fun b hb => hs b (hsep b hb)) (by simp [World.setCell])
theorem OwnT.rds (h : OwnT c w base e v l) : ∃ A cap, v = .slice A l.length cap ∧ (l.length ≤ maxLen ∧ l.length ≤ cap) ∧ RdS c w (fun b => base ≤ b ∧ b < w.heap.size) A l := by
  obtain ⟨xs, h1, h2⟩ := h
  rcases h1.2 with ⟨rfl, h0⟩ | ⟨g, cap, cur, rfl, hb, hg, hcap, hcm, htake⟩
  · exact ⟨none, 0, by rw [h0], by omega, fun hl => by omega⟩
  · refine ⟨_, _, rfl, ⟨Nat.le_trans hcap hcm, hcap⟩, fun _ => ⟨g, 0, rfl, ⟨hb, lt_heap hg⟩, fun i x hx => ?_⟩⟩
    obtain ⟨ys, h4, h5⟩ := h2.get hx
    refine ⟨ys, c.more h4 (fun b hb => ⟨hb.1, hb.2.1⟩), fun j u hu => ?_⟩
    have h6 := h5 j u hu
    rw [Nat.zero_add, cell_of_row w g _ cur e (0, 0) hg]
    rw [← htake.2, List.getElem?_take] at h6
    split at h6
    · simpa using h6
    · cases h6
/-- One more element. -/
structure AppT (c : Cod α) (w w' : World) (base : Nat) (e : TypeId) (v' : Value) (l : List α) : Prop where
  own : OwnT c w' base e v' l
  frm : Frm base e w w'
theorem run_append_t {P : Program} (t ty : TypeId) (i : TypeInfo) (z : Value) (bytes : Nat) (ht : P.underlying t = some (.slice e)) (hi : P.info? e = some i) (hz : i.zero = some z) (hsize : i.size = c.size) (hby : i.bytes = bytes) (hzs : z.cells.size = c.size) (hc : 0 < c.size)
    (hown : OwnT c w base e v l) (ys : List Value) (y : α) (hy : c.rd w (SepT w base e) ys y) (h1 : ∀ u ∈ ys, u.oneCell' = true) (ad : Addr) (k : Nat)
    (hcell : ∀ j u, ys[j]? = some u → w.cell? (ad.add j) = some u) (hlen : l.length ≤ 100000) (hbl : bytes ≤ 1000) (hbase : base ≤ w.heap.size) :
    ∃ v' w', (Builtin.append_ #[t, t] ty #[v, .slice (some ad) 1 k]).run P w = .ok v' w' ∧ AppT c w w' base e v' (l ++ [y]) := by
  have hyl := c.len hy
  obtain ⟨xs, hown, hrd⟩ := hown
  obtain ⟨v', w', hrun, h2, h3, h4⟩ := own_appendQ (P := P) w base t ty e i z c.size bytes ht hi hz hsize hby hzs hc v l.length xs hown ad 1 k ys (by omega) hcell h1
    (by unfold maxLen; omega) (Nat.le_trans (Nat.mul_le_mul (show l.length + 1 ≤ 1000000 by omega) hbl) (by omega)) hbase
  have hf := frm_of hown h3
  have hs' : ∀ b, SepT w base e b → w'.heap[b]? = w.heap[b]? := fun b hb => by
    have hlt : b < w.heap.size := hb.2.1
    have ho : w.heap[b]? = some w.heap[b] := Array.getElem?_eq_getElem hlt
    rw [hf.obj b _ ho fun cs fr hx => hb.2.2 cs fr (by rw [ho, hx]), ho]
  have key : RdC c w (SepT w base e) (xs ++ ys) (l ++ [y]) := hrd.snoc hy
  exact ⟨v', w', hrun, ⟨xs ++ ys, by rw [List.length_append]; exact h2, key.sepT hs' hf.size⟩, hf⟩
end
section
variable {P : Program} {α : Type} {c : Cod α}
theorem wpList_append_t (w : World) {ops : Array Oper} {rest : List Oper} {o : Oper} {a : Act} {Q : Exit → Act → World → Prop} (hgd : o.guard = none) (s x : Operand) (t : TypeId)
    (ho : o.op = .call { callee := .builtin .append, args := #[s, x], argTypes := #[t, t] })
    (base : Nat) (e : TypeId) (i : TypeInfo) (z : Value) (bytes : Nat) (ht : P.underlying t = some (.slice e)) (hi : P.info? e = some i) (hz : i.zero = some z) (hsize : i.size = c.size) (hby : i.bytes = bytes) (hzs : z.cells.size = c.size) (hc : 0 < c.size)
    (v : Value) (l : List α) (hs : a.eval s = v) (hown : OwnT c w base e v l) (ys : List Value) (y : α) (hy : c.rd w (SepT w base e) ys y) (h1 : ∀ u ∈ ys, u.oneCell' = true) (ad : Addr) (k : Nat)
    (hx : a.eval x = .slice (some ad) 1 k) (hcell : ∀ j u, ys[j]? = some u → w.cell? (ad.add j) = some u) (hlen : l.length ≤ 100000) (hbl : bytes ≤ 1000) (hbase : base ≤ w.heap.size)
    (h : ∀ v' w', AppT c w w' base e v' (l ++ [y]) → wpList P ops Q rest (a.put o.dst v') w') : wpList P ops Q (o :: rest) a w := by
  refine wpList_plain hgd fun K hK => ?_
  obtain ⟨v', w', hrun, hq⟩ := run_append_t (P := P) (c := c) t o.type i z bytes ht hi hz hsize hby hzs hc hown ys y hy h1 ad k hcell hlen hbl hbase
  unfold Oper.wp execOp
  simp only [ho, resolve, invoke, builtin, Sem.run_bind, Sem.run_pure, Result.andThen_ok, List.map_toArray, List.map_cons, List.map_nil, hs, hx, hrun]
  exact hK _ _ (h v' w' hq)
theorem step_append_t {w : World} {ops : Array Oper} {o : Oper} {a : Act} {K : Act → World → Prop} {Q : Exit → Act → World → Prop} {E : Prop} (hgd : o.guard = none) (s x : Operand) (t : TypeId)
    (ho : o.op = .call { callee := .builtin .append, args := #[s, x], argTypes := #[t, t] })
    (base : Nat) (e : TypeId) (i : TypeInfo) (z : Value) (bytes : Nat) (ht : P.underlying t = some (.slice e)) (hi : P.info? e = some i) (hz : i.zero = some z) (hsize : i.size = c.size) (hby : i.bytes = bytes) (hzs : z.cells.size = c.size) (hc : 0 < c.size)
    (v : Value) (l : List α) (hs : a.eval s = v) (hown : OwnT c w base e v l) (ys : List Value) (y : α) (hy : c.rd w (SepT w base e) ys y) (h1 : ∀ u ∈ ys, u.oneCell' = true) (ad : Addr) (k : Nat)
    (hx : a.eval x = .slice (some ad) 1 k) (hcell : ∀ j u, ys[j]? = some u → w.cell? (ad.add j) = some u) (hlen : l.length ≤ 100000) (hbl : bytes ≤ 1000) (hbase : base ≤ w.heap.size)
    (h : ∀ v' w', AppT c w w' base e v' (l ++ [y]) → K (a.put o.dst v') w') : if Region.wanted o (yielded ops a.tmps) = true then Oper.wp P o a w K Q else E := by
  have hw : Region.wanted o (yielded ops a.tmps) = true := by simp [Region.wanted, hgd]
  rw [if_pos hw]
  obtain ⟨v', w', hrun, hq⟩ := run_append_t (P := P) (c := c) t o.type i z bytes ht hi hz hsize hby hzs hc hown ys y hy h1 ad k hcell hlen hbl hbase
  unfold Oper.wp execOp
  simp only [ho, resolve, invoke, builtin, Sem.run_bind, Sem.run_pure, Result.andThen_ok, List.map_toArray, List.map_cons, List.map_nil, hs, hx, hrun]
  exact h v' w' hq
end
/-- A slice of the call's own as a list of a route. -/
theorem OwnR.into {α : Type} {c : Cod α} {w : World} {base base0 : Nat} {e T : TypeId} {v : Value} {l : List α} (h : OwnR c w base e v l 0) (hT : e ≠ T) (hb : base0 ≤ base) : ∃ A cap, v = .slice A l.length cap ∧ (l.length ≤ maxLen ∧ l.length ≤ cap) ∧ RdS c w (SepT w base0 T) A l :=
  h.rds (S := SepT w base0 T) (fun b cs hb' hbs => ⟨Nat.le_trans hb hbs, lt_heap hb', fun cs' fr hx => by rw [hb'] at hx; simp only [Option.some.injEq, Obj.cells.injEq] at hx; exact hT hx.2.1⟩) (fun b hb => absurd hb.1 (Nat.not_lt_zero _))
section
variable {w : World} {S : Nat → Prop} {ys : List Value} {r : Rou} {A : Option Addr} {cap : Nat}
theorem rou_set1 {l : List Stp} (h : cR.rd w S ys r) (hn : l.length ≤ maxLen ∧ l.length ≤ cap) (hr : RdS cStp w S A l) : cR.rd w S (ys.set 3 (.slice A l.length cap)) { r with path := l } := by
  obtain ⟨v, rfl, rfl, ho, r1, r2, r3, r4, r5, r6, r7, r8, r9⟩ := h
  refine ⟨{ v with r := { v.r with path := l }, A1 := A, c1 := cap }, rfl, rfl, ⟨ho.nm, ho.ent, ho.ext, ho.app, ho.len, hn, ho.n2, ho.n3, ho.n4, ho.n5, ho.n6, ho.n7, ho.n8, ho.n9⟩, hr, r2, r3, r4, r5, r6, r7, r8, r9⟩
theorem rou_set2 {l : List Stg} (h : cR.rd w S ys r) (hn : l.length ≤ maxLen ∧ l.length ≤ cap) (hr : RdS cStg w S A l) : cR.rd w S (ys.set 4 (.slice A l.length cap)) { r with pts := l } := by
  obtain ⟨v, rfl, rfl, ho, r1, r2, r3, r4, r5, r6, r7, r8, r9⟩ := h
  refine ⟨{ v with r := { v.r with pts := l }, A2 := A, c2 := cap }, rfl, rfl, ⟨ho.nm, ho.ent, ho.ext, ho.app, ho.len, ho.n1, hn, ho.n3, ho.n4, ho.n5, ho.n6, ho.n7, ho.n8, ho.n9⟩, r1, hr, r3, r4, r5, r6, r7, r8, r9⟩
theorem rou_set3 {l : List Int} (h : cR.rd w S ys r) (hn : l.length ≤ maxLen ∧ l.length ≤ cap) (hr : RdS cI w S A l) : cR.rd w S (ys.set 5 (.slice A l.length cap)) { r with secs := l } := by
  obtain ⟨v, rfl, rfl, ho, r1, r2, r3, r4, r5, r6, r7, r8, r9⟩ := h
  refine ⟨{ v with r := { v.r with secs := l }, A3 := A, c3 := cap }, rfl, rfl, ⟨ho.nm, ho.ent, ho.ext, ho.app, ho.len, ho.n1, ho.n2, hn, ho.n4, ho.n5, ho.n6, ho.n7, ho.n8, ho.n9⟩, r1, r2, hr, r4, r5, r6, r7, r8, r9⟩
theorem rou_set4 {l : List Stp} (h : cR.rd w S ys r) (hn : l.length ≤ maxLen ∧ l.length ≤ cap) (hr : RdS cStp w S A l) : cR.rd w S (ys.set 8 (.slice A l.length cap)) { r with over := l } := by
  obtain ⟨v, rfl, rfl, ho, r1, r2, r3, r4, r5, r6, r7, r8, r9⟩ := h
  refine ⟨{ v with r := { v.r with over := l }, A4 := A, c4 := cap }, rfl, rfl, ⟨ho.nm, ho.ent, ho.ext, ho.app, ho.len, ho.n1, ho.n2, ho.n3, hn, ho.n5, ho.n6, ho.n7, ho.n8, ho.n9⟩, r1, r2, r3, hr, r5, r6, r7, r8, r9⟩
theorem rou_set5 {l : List Stg} (h : cR.rd w S ys r) (hn : l.length ≤ maxLen ∧ l.length ≤ cap) (hr : RdS cStg w S A l) : cR.rd w S (ys.set 9 (.slice A l.length cap)) { r with opts := l } := by
  obtain ⟨v, rfl, rfl, ho, r1, r2, r3, r4, r5, r6, r7, r8, r9⟩ := h
  refine ⟨{ v with r := { v.r with opts := l }, A5 := A, c5 := cap }, rfl, rfl, ⟨ho.nm, ho.ent, ho.ext, ho.app, ho.len, ho.n1, ho.n2, ho.n3, ho.n4, hn, ho.n6, ho.n7, ho.n8, ho.n9⟩, r1, r2, r3, r4, hr, r6, r7, r8, r9⟩
theorem rou_set6 {l : List Int} (h : cR.rd w S ys r) (hn : l.length ≤ maxLen ∧ l.length ≤ cap) (hr : RdS cI w S A l) : cR.rd w S (ys.set 10 (.slice A l.length cap)) { r with osecs := l } := by
  obtain ⟨v, rfl, rfl, ho, r1, r2, r3, r4, r5, r6, r7, r8, r9⟩ := h
  refine ⟨{ v with r := { v.r with osecs := l }, A6 := A, c6 := cap }, rfl, rfl, ⟨ho.nm, ho.ent, ho.ext, ho.app, ho.len, ho.n1, ho.n2, ho.n3, ho.n4, ho.n5, hn, ho.n7, ho.n8, ho.n9⟩, r1, r2, r3, r4, r5, hr, r7, r8, r9⟩
theorem rou_set7 {l : List Stg} (h : cR.rd w S ys r) (hn : l.length ≤ maxLen ∧ l.length ≤ cap) (hr : RdS cStg w S A l) : cR.rd w S (ys.set 11 (.slice A l.length cap)) { r with flk := l } := by
  obtain ⟨v, rfl, rfl, ho, r1, r2, r3, r4, r5, r6, r7, r8, r9⟩ := h
  refine ⟨{ v with r := { v.r with flk := l }, A7 := A, c7 := cap }, rfl, rfl, ⟨ho.nm, ho.ent, ho.ext, ho.app, ho.len, ho.n1, ho.n2, ho.n3, ho.n4, ho.n5, ho.n6, hn, ho.n8, ho.n9⟩, r1, r2, r3, r4, r5, r6, hr, r8, r9⟩
theorem rou_set8 {l : List Int} (h : cR.rd w S ys r) (hn : l.length ≤ maxLen ∧ l.length ≤ cap) (hr : RdS cI w S A l) : cR.rd w S (ys.set 12 (.slice A l.length cap)) { r with grd := l } := by
  obtain ⟨v, rfl, rfl, ho, r1, r2, r3, r4, r5, r6, r7, r8, r9⟩ := h
  refine ⟨{ v with r := { v.r with grd := l }, A8 := A, c8 := cap }, rfl, rfl, ⟨ho.nm, ho.ent, ho.ext, ho.app, ho.len, ho.n1, ho.n2, ho.n3, ho.n4, ho.n5, ho.n6, ho.n7, hn, ho.n9⟩, r1, r2, r3, r4, r5, r6, r7, hr, r9⟩
theorem rou_set9 {l : List End2} (h : cR.rd w S ys r) (hn : l.length ≤ maxLen ∧ l.length ≤ cap) (hr : RdS cEnd w S A l) : cR.rd w S (ys.set 13 (.slice A l.length cap)) { r with gap := l } := by
  obtain ⟨v, rfl, rfl, ho, r1, r2, r3, r4, r5, r6, r7, r8, r9⟩ := h
  refine ⟨{ v with r := { v.r with gap := l }, A9 := A, c9 := cap }, rfl, rfl, ⟨ho.nm, ho.ent, ho.ext, ho.app, ho.len, ho.n1, ho.n2, ho.n3, ho.n4, ho.n5, ho.n6, ho.n7, ho.n8, hn⟩, r1, r2, r3, r4, r5, r6, r7, r8, hr⟩
/-- A new route without lists. -/
theorem rou_new {n : List UInt8} {a b c d : Int} (hn : n.length ≤ maxLen) (ha : I64n a) (hb : I64n b) (hc : I64n c) (hd : I64n d) : cR.rd w S [.string (bs n), .int .i64 a, .int .i64 b, .slice none 0 0, .slice none 0 0, .slice none 0 0, .int .i64 c, .int .i64 d, .slice none 0 0, .slice none 0 0, .slice none 0 0, .slice none 0 0, .slice none 0 0, .slice none 0 0] { zR with name := n, ent := a, ext := b, app := c, len := d } :=
  ⟨⟨{ zR with name := n, ent := a, ext := b, app := c, len := d }, none, none, none, none, none, none, none, none, none, 0, 0, 0, 0, 0, 0, 0, 0, 0⟩, rfl, rfl, ⟨hn, ha, hb, hc, hd, by simp [zR], by simp [zR], by simp [zR], by simp [zR], by simp [zR], by simp [zR], by simp [zR], by simp [zR], by simp [zR]⟩, RdS.nil _ _ _ _, RdS.nil _ _ _ _, RdS.nil _ _ _ _, RdS.nil _ _ _ _, RdS.nil _ _ _ _, RdS.nil _ _ _ _, RdS.nil _ _ _ _, RdS.nil _ _ _ _, RdS.nil _ _ _ _⟩
end
end Go.Proofs.YtlblfblkallnhaaGreatDoor
