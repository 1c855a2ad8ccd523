/- Slices that the call itself makes, of any plain data, and what a step on one of them leaves of the others. Over any program. -/
import Derived.Test.YtlblfblkallnhaaGreatDoorCds
import Derived.Test.YtlblfblkallnhaaGreatDoorGround
import Derived.Deep.AppendLies
namespace Go.Proofs.YtlblfblkallnhaaGreatDoor
set_option linter.unusedVariables false
set_option linter.unusedSimpArgs false
open Go.RowKit
/-! ### Cells that read as a list -/
def RdC {α : Type} (c : Cod α) (w : World) (S : Nat → Prop) : List Value → List α → Prop
  | xs, [] => xs = []
  | xs, a :: l => ∃ ys zs, xs = ys ++ zs ∧ c.rd w S ys a ∧ RdC c w S zs l
section
variable {α : Type} {c : Cod α} {w w' : World} {S S' : Nat → Prop}
theorem RdC.len : ∀ {l : List α} {xs : List Value}, RdC c w S xs l → xs.length = l.length * c.size
  | [], xs, h => by simp [RdC] at h; simp [h]
  | a :: l, xs, ⟨ys, zs, h1, h2, h3⟩ => by rw [h1, List.length_append, c.len h2, RdC.len h3, List.length_cons, Nat.succ_mul]; omega
theorem RdC.snoc : ∀ {l : List α} {xs ys : List Value} {a : α}, RdC c w S xs l → c.rd w S ys a → RdC c w S (xs ++ ys) (l ++ [a])
  | [], xs, ys, a, h, h2 => by simp [RdC] at h; subst h; exact ⟨ys, [], by simp, h2, rfl⟩
  | b :: l, xs, ys, a, ⟨y, z, h1, h2, h3⟩, h4 => ⟨y, z ++ ys, by rw [h1, List.append_assoc], h2, RdC.snoc h3 h4⟩
theorem RdC.keep : ∀ {l : List α} {xs : List Value}, RdC c w S xs l → (∀ p : Addr, S p.block → w'.cell? p = w.cell? p) → RdC c w' S xs l
  | [], _, h, _ => h
  | _ :: _, _, ⟨y, z, h1, h2, h3⟩, hk => ⟨y, z, h1, c.keep h2 hk, RdC.keep h3 hk⟩
theorem RdC.more : ∀ {l : List α} {xs : List Value}, RdC c w S xs l → (∀ b, S b → S' b) → RdC c w S' xs l
  | [], _, h, _ => h
  | _ :: _, _, ⟨y, z, h1, h2, h3⟩, hs => ⟨y, z, h1, c.more h2 hs, RdC.more h3 hs⟩
theorem RdC.get : ∀ {l : List α} {xs : List Value} {i : Nat} {a : α}, RdC c w S xs l → l[i]? = some a → ∃ ys, c.rd w S ys a ∧ ∀ (j : Nat) (u : Value), ys[j]? = some u → xs[i * c.size + j]? = some u
  | [], _, _, _, _, h => by simp at h
  | x :: l, xs, 0, a, ⟨y, z, h1, h2, _⟩, h => by
    simp at h; subst h
    refine ⟨y, h2, fun j u hu => ?_⟩
    have := (List.getElem?_eq_some_iff.1 hu).1
    rw [h1, Nat.zero_mul, Nat.zero_add, List.getElem?_append_left this]
    exact hu
  | x :: l, xs, i + 1, a, ⟨y, z, h1, h2, h3⟩, h => by
    simp only [List.getElem?_cons_succ] at h
    obtain ⟨ys, h4, h5⟩ := RdC.get h3 h
    refine ⟨ys, h4, fun j u hu => ?_⟩
    have hy := c.len h2
    rw [h1, List.getElem?_append_right (by rw [hy, Nat.succ_mul]; omega), hy, show (i + 1) * c.size + j - c.size = i * c.size + j by rw [Nat.succ_mul]; omega]
    exact h5 j u hu
end
/-! ### Rows of the call's own -/
/-- The blocks below B that are no rows of elements of type e. -/
def Sep (w : World) (e : TypeId) (B : Nat) : Nat → Prop := fun b => b < B ∧ ∀ cs fr, w.heap[b]? ≠ some (.cells cs e fr)
/-- The value v is a slice that the call owns, from block base on; its elements read as l, what they lead to in blocks below B. -/
def OwnR {α : Type} (c : Cod α) (w : World) (base : Nat) (e : TypeId) (v : Value) (l : List α) (B : Nat) : Prop := ∃ xs, w.ownsRow base e c.size v l.length xs ∧ RdC c w (Sep w e B) xs l ∧ B ≤ w.heap.size
/-- A step that turns nothing but one row of elements of type e, from block base on. -/
structure Frm (base : Nat) (e : TypeId) (w w' : World) : Prop where
  os : w'.os = w.os
  tape : w'.tape = w.tape
  output : w'.output = w.output
  size : w.heap.size ≤ w'.heap.size
  low : ∀ k, k < base → k < w.heap.size → w'.heap[k]? = w.heap[k]?
  obj : ∀ (k : Nat) (o : Obj), w.heap[k]? = some o → (∀ cs fr, o ≠ .cells cs e fr) → w'.heap[k]? = some o
theorem lt_heap {w : World} {k : Nat} {o : Obj} (h : w.heap[k]? = some o) : k < w.heap.size := (Array.getElem?_eq_some_iff.1 h).1
theorem Frm.keeps {base : Nat} {e : TypeId} {w w' : World} (h : Frm base e w w') {B : Nat} {w0 : World} (hB : B ≤ base) (hBw : B ≤ w.heap.size) (hb : Below B w0 w) : Below B w0 w' :=
  hb.trans ⟨h.os, h.tape, h.output, h.size, fun k hk => h.low k (by omega) (by omega)⟩
theorem Frm.blk {base : Nat} {e T : TypeId} {w w' : World} (h : Frm base e w w') {g : Nat} {cs : Array Value} (hb : Blk w g T cs) (hT : T ≠ e) : Blk w' g T cs :=
  h.obj g _ hb fun cs fr he => by simp only [Obj.cells.injEq] at he; exact hT he.2.1
theorem Frm.iter {base : Nat} {e : TypeId} {w w' : World} (h : Frm base e w w') {g : Nat} {s : ByteArray} {pos : Nat} (hb : w.heap[g]? = some (.stringIter s pos)) : w'.heap[g]? = some (.stringIter s pos) :=
  h.obj g _ hb fun cs fr he => by cases he
theorem Frm.refl (base : Nat) (e : TypeId) (w : World) : Frm base e w w := ⟨rfl, rfl, rfl, Nat.le_refl _, fun _ _ _ => rfl, fun _ _ h _ => h⟩
theorem Frm.trans {base : Nat} {e : TypeId} {u v w : World} (h : Frm base e u v) (k : Frm base e v w) : Frm base e u w :=
  ⟨k.os.trans h.os, k.tape.trans h.tape, k.output.trans h.output, Nat.le_trans h.size k.size, fun i h1 h2 => (k.low i h1 (Nat.lt_of_lt_of_le h2 h.size)).trans (h.low i h1 h2), fun i o h1 h2 => k.obj i o (h.obj i o h1 h2) h2⟩
theorem Frm.of_below {base : Nat} {e : TypeId} {w w' : World} (h : Below w.heap.size w w') : Frm base e w w' :=
  ⟨h.os, h.tape, h.output, h.size, fun k _ hk => h.block k hk, fun k o ho _ => (h.block k (lt_heap ho)).trans ho⟩
/-- Nothing but one's own row is turned by an append. -/
theorem frm_of {base size n : Nat} {e : TypeId} {w w' : World} {v : Value} {xs : List Value} (h : w.ownsRow base e size v n xs) (hg : w.grownBy w' v.ownBlock) : Frm base e w w' := by
  refine ⟨hg.os, hg.tape, hg.output, hg.size, fun k hk hw => hg.block k hw fun he => ?_, fun k o ho hne => (hg.block k (lt_heap ho) fun he => ?_).trans ho⟩
  · have := (World.ownsRow.lt h k he.symm).1
    omega
  · rcases h.2 with ⟨rfl, _⟩ | ⟨g, cap, cur, rfl, _, hgk, _⟩
    · cases he
    · have : k = g := Option.some.inj he
      subst this
      rw [ho] at hgk
      exact hne _ _ (Option.some.inj hgk)
section
variable {α : Type} {c : Cod α} {w w' : World} {base B : Nat} {e : TypeId} {v : Value} {l : List α}
theorem OwnR.nil (c : Cod α) (w : World) (base : Nat) (e : TypeId) (hB : B ≤ w.heap.size) : OwnR c w base e (.slice none 0 0) ([] : List α) B := ⟨[], World.ownsRow_nil w base e c.size, rfl, hB⟩
theorem OwnR.form (h : OwnR c w base e v l B) : ∃ A cap, v = .slice A l.length cap := by
  obtain ⟨xs, h, _, _⟩ := h
  rcases h.2 with ⟨rfl, h0⟩ | ⟨g, cap, cur, rfl, _⟩
  · rw [h0]; exact ⟨_, _, rfl⟩
  · exact ⟨_, _, rfl⟩
theorem OwnR.short (h : OwnR c w base e v l B) : l.length ≤ maxLen := by
  obtain ⟨xs, h, _, _⟩ := h
  rcases h.2 with ⟨rfl, h0⟩ | ⟨g, cap, cur, rfl, _, _, h1, h2, _⟩
  · rw [h0]; exact Nat.zero_le _
  · exact Nat.le_trans h1 h2
theorem Sep.same {B' : Nat} (hs : ∀ k, k < B → w'.heap[k]? = w.heap[k]?) (hB : B ≤ B') : ∀ b, Sep w e B b → Sep w' e B' b := fun b ⟨h1, h2⟩ => ⟨by omega, fun cs fr he => h2 cs fr (by rw [← hs b h1]; exact he)⟩
theorem cell_same {p : Addr} (h : w'.heap[p.block]? = w.heap[p.block]?) : w'.cell? p = w.cell? p := World.cell?_of_block h
theorem OwnR.now (h : OwnR c w base e v l B) (hb : Below w.heap.size w w') : OwnR c w' base e v l B := by
  obtain ⟨xs, h1, h2, h3⟩ := h
  refine ⟨xs, World.ownsRow.kept h1 (row := none) ⟨hb.os, hb.tape, hb.output, hb.size, fun i hi _ => hb.block i hi⟩ (by cases hv : v.ownBlock <;> simp), ?_, Nat.le_trans h3 hb.size⟩
  exact (h2.keep fun p hp => cell_same (hb.block _ (by have := hp.1; omega))).more (Sep.same (fun k hk => hb.block k (by omega)) (Nat.le_refl _))
theorem OwnR.drew (h : OwnR c w base e v l B) : OwnR c w.drew base e v l B := h.now (Below.refl _ _).drew
theorem OwnR.alloc (h : OwnR c w base e v l B) (o : Obj) : OwnR c (w.alloc o) base e v l B := h.now ((Below.refl _ _).alloc (Nat.le_refl _) o)
/-- Another row of another type is turned. -/
theorem OwnR.frm {base2 : Nat} {e2 : TypeId} (h : OwnR c w base e v l B) (hf : Frm base2 e2 w w') (he : e ≠ e2) (hB : B ≤ base2) : OwnR c w' base e v l B := by
  obtain ⟨xs, h1, h2, h3⟩ := h
  have hs : ∀ k, k < B → w'.heap[k]? = w.heap[k]? := fun k hk => hf.low k (by omega) (by omega)
  refine ⟨xs, ⟨h1.1, ?_⟩, (h2.keep fun p hp => cell_same (hs _ hp.1)).more (Sep.same hs (Nat.le_refl _)), Nat.le_trans h3 hf.size⟩
  rcases h1.2 with h | ⟨g, cap, cur, hv, hb, hg, h4, h5, h6⟩
  · exact Or.inl h
  · exact Or.inr ⟨g, cap, cur, hv, hb, hf.obj g _ hg fun cs fr hx => by simp only [Obj.cells.injEq] at hx; exact he hx.2.1, h4, h5, h6⟩
/-- A block of its own that the row does not lie in is turned. -/
theorem OwnR.set (h : OwnR c w base e v l B) (g j : Nat) (u : Value) (T : TypeId) (cs : Array Value) (hg : Blk w g T cs) (hT : T ≠ e) (hB : B ≤ g) : OwnR c (w.setCell ⟨g, j, none⟩ u) base e v l B := by
  obtain ⟨xs, h1, h2, h3⟩ := h
  have hs : ∀ k, k ≠ g → (w.setCell ⟨g, j, none⟩ u).heap[k]? = w.heap[k]? := fun k hk => Below.heap_setCell _ _ _ _ hk
  refine ⟨xs, ⟨h1.1, ?_⟩, (h2.keep fun p hp => cell_same (hs _ (by have := hp.1; omega))).more (Sep.same (fun k hk => hs k (by omega)) (Nat.le_refl _)), by simp [World.setCell]; exact h3⟩
  rcases h1.2 with h | ⟨g', cap, cur, hv, hb, hg', h4, h5, h6⟩
  · exact Or.inl h
  · refine Or.inr ⟨g', cap, cur, hv, hb, (hs g' ?_).trans hg', h4, h5, h6⟩
    rintro rfl
    have := hg'.symm.trans hg
    simp only [Option.some.injEq, Obj.cells.injEq] at this
    exact hT this.2.1.symm
theorem OwnR.raise {B' : Nat} (h : OwnR c w base e v l B) (hB : B ≤ B') (hw : B' ≤ w.heap.size) : OwnR c w base e v l B' := by
  obtain ⟨xs, h1, h2, h3⟩ := h
  exact ⟨xs, h1, h2.more fun b hb => ⟨by have := hb.1; omega, hb.2⟩, hw⟩
/-- A row of the call's own reads as a list. -/
theorem OwnR.rds {S : Nat → Prop} (h : OwnR c w base e v l B) (hS : ∀ (b : Nat) (cs : Array Value), w.heap[b]? = some (.cells cs e (0, 0)) → base ≤ b → S b) (hI : ∀ b, Sep w e B b → S b) : ∃ A cap, v = .slice A l.length cap ∧ (l.length ≤ maxLen ∧ l.length ≤ cap) ∧ RdS c w S A l := by
  have hsh := h.short
  obtain ⟨xs, h1, h2, _⟩ := h
  rcases h1.2 with ⟨rfl, h0⟩ | ⟨g, cap, cur, rfl, hb, hg, hcap, _, htake⟩
  · exact ⟨none, 0, by rw [h0], ⟨hsh, by omega⟩, fun hl => by omega⟩
  · refine ⟨_, _, rfl, ⟨hsh, hcap⟩, fun _ => ⟨g, 0, rfl, hS g _ hg hb, fun i x hx => ?_⟩⟩
    obtain ⟨ys, h4, h5⟩ := h2.get hx
    refine ⟨ys, c.more h4 hI, fun j u hu => ?_⟩
    have h6 := h5 j u hu
    rw [Nat.zero_add, cell_of_row w g _ cur e (0, 0) hg]
    rw [← htake.2, List.getElem?_take] at h6
    split at h6
    · simpa using h6
    · cases h6
theorem OwnR.reads (h : OwnR c w base e v l B) : ∃ A cap, v = .slice A l.length cap ∧ l.length ≤ maxLen ∧ RdS c w (Lt w) A l := by
  have h3 := h
  obtain ⟨_, _, _, hB⟩ := h3
  obtain ⟨A, cap, h1, h2, h3⟩ := h.rds (S := Lt w) (fun b cs hb _ => lt_heap hb) (fun b hb => Nat.lt_of_lt_of_le hb.1 hB)
  exact ⟨A, cap, h1, h2.1, h3⟩
theorem OwnR.reads2 (h : OwnR c w base e v l B) : ∃ A cap, v = .slice A l.length cap ∧ (l.length ≤ maxLen ∧ l.length ≤ cap) ∧ RdS c w (Lt w) A l := by
  have h3 := h
  obtain ⟨_, _, _, hB⟩ := h3
  exact h.rds (fun b cs hb _ => lt_heap hb) (fun b hb => Nat.lt_of_lt_of_le hb.1 hB)
/-- The row itself as an element of a row of another type. -/
theorem OwnR.inner {T : TypeId} (h : OwnR c w base e v l 0) (hT : e ≠ T) : ∃ A cap, v = .slice A l.length cap ∧ (cL c).rd w (Sep w T w.heap.size) [v] l := by
  obtain ⟨A, cap, rfl, h1, h2⟩ := h.rds (S := Sep w T w.heap.size) (fun b cs hb _ => ⟨lt_heap hb, fun cs' fr hx => by rw [hb] at hx; simp only [Option.some.injEq, Obj.cells.injEq] at hx; exact hT hx.2.1⟩) (fun b hb => absurd hb.1 (Nat.not_lt_zero _))
  exact ⟨A, cap, rfl, A, cap, rfl, h1, h2⟩
end
section
variable {P : Program} {α : Type} {c : Cod α}
/-- One more datum, that lies in a block of its own, is appended. -/
theorem wpList_append_r (w : World) {ops : Array Oper} {rest : List Oper} {o : Oper} {a : Act} {Q : Exit → Act → World → Prop} (hgd : o.guard = none) (s x : Operand) (t : TypeId)
    (ho : o.op = .call { callee := .builtin .append, args := #[s, x], argTypes := #[t, t] })
    (base : Nat) (e : TypeId) (i : TypeInfo) (z : Value) (bytes : Nat) (ht : P.underlying t = some (.slice e)) (hi : P.info? e = some i) (hz : i.zero = some z) (hsize : i.size = c.size) (hby : i.bytes = bytes) (hzs : z.cells.size = c.size) (hc : 0 < c.size)
    (v : Value) (l : List α) (B : Nat) (hs : a.eval s = v) (hown : OwnR c w base e v l B) (ys : List Value) (y : α) (hy : c.rd w (Sep w e B) ys y) (h1 : ∀ u ∈ ys, u.oneCell' = true) (tt : TypeId)
    (hx : a.eval x = .slice (some ⟨w.heap.size, 0, none⟩) 1 1) (hlen : l.length ≤ 100000) (hbl : bytes ≤ 1000) (hbase : base ≤ w.heap.size)
    (h : ∀ v' w', OwnR c w' base e v' (l ++ [y]) B → Frm base e w w' → w.heap.size < w'.heap.size → wpList P ops Q rest (a.put o.dst v') w') : wpList P ops Q (o :: rest) a (w.alloc (.cells ys.toArray tt)) := by
  obtain ⟨xs, hown, hrd, hB⟩ := hown
  have hown' := World.ownsRow.alloc hown (.cells ys.toArray tt)
  have hyl := c.len hy
  refine wpList_append_own _ hgd s x t ho base e i z c.size bytes ht hi hz hsize hby hzs hc v l.length xs hs hown' ⟨w.heap.size, 0, none⟩ 1 1 ys hx (by omega) ?_ h1
    (by unfold maxLen; omega) (Nat.le_trans (Nat.mul_le_mul (show l.length + 1 ≤ 1000000 by omega) hbl) (by omega)) (by simp; omega) ?_
  · intro j u hj
    have : (⟨w.heap.size, 0, none⟩ : Addr).add j = ⟨w.heap.size, j, none⟩ := by
      unfold Addr.add
      split
      · rename_i h0; subst h0; rfl
      · simp
    rw [this, World.cell?_alloc_at _ _ _ _ rfl]
    simpa using hj
  · intro v' w' h2 h3 _
    have hf := frm_of hown' h3
    have hb0 : Below w.heap.size w (w.alloc (.cells ys.toArray tt)) := (Below.refl _ _).alloc (Nat.le_refl _) _
    have hfr : Frm base e w w' := (Frm.of_below hb0).trans hf
    have hs : ∀ b, Sep w e B b → w'.heap[b]? = w.heap[b]? := fun b hb => by
      have hlt : b < w.heap.size := by have := hb.1; omega
      have ho : w.heap[b]? = some w.heap[b] := Array.getElem?_eq_getElem hlt
      rw [hfr.obj b _ ho fun cs fr hx => hb.2 cs fr (by rw [ho, hx]), ho]
    refine h v' w' ⟨xs ++ ys, by rw [List.length_append]; exact h2, ?_, Nat.le_trans hB hfr.size⟩ hfr (Nat.lt_of_lt_of_le (by simp) hf.size)
    have key : RdC c w (Sep w e B) (xs ++ ys) (l ++ [y]) := hrd.snoc hy
    exact (key.keep fun p hp => cell_same (hs _ hp)).more fun b hb => ⟨hb.1, fun cs fr hx => hb.2 cs fr (by rw [← hs b hb]; exact hx)⟩
end
end Go.Proofs.YtlblfblkallnhaaGreatDoor
