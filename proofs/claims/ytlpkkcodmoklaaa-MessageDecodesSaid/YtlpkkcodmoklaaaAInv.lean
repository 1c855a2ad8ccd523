/- Rows of structs that the call itself makes, beside a reader. -/
import Derived.Test.YtlpkkcodmoklaaaRdr
import Derived.Test.YtlpkkcodmoklaaaMsgCod
import Derived.Test.YtlpkkcodmoklaaaMsgParse
import Derived.Test.YtlpkkcodmoklaaaBuilder
import Derived.Deep.AppendLies
import Derived.Deep.RegionLaw
namespace Go.Proofs.Ytlpkkcodmoklaaa
set_option linter.unusedVariables false
set_option linter.unusedSimpArgs false
open Go.RowKit
theorem info100 : (Try.prog.info? 100).map (fun i => (i.zero, i.size, i.bytes)) = some (some (.agg #[.int .i64 0, .int .i64 0, .int .i64 0, .int .i64 0]), 4, 32) := by kernel_rfl
theorem info77 : (Try.prog.info? 77).map (fun i => (i.zero, i.size, i.bytes)) = some (some (.agg #[.int .i64 0, .int .i64 0]), 2, 16) := by kernel_rfl
theorem step_append_row {P : Program} {w : World} {ops : Array Oper} {o : Oper} {a : Act} {K : Act → World → Prop} {Q : Exit → Act → World → Prop} {E : Prop} (hgd : o.guard = none) (s x : Operand) (t : TypeId)
    (ho : o.op = .call { callee := .builtin .append, args := #[s, x], argTypes := #[t, t] })
    (base : Nat) (e : TypeId) (i : TypeInfo) (z : Value) (size bytes : Nat) (ht : P.underlying t = some (.slice e)) (hi : P.info? e = some i) (hz : i.zero = some z) (hsize : i.size = size) (hby : i.bytes = bytes) (hzs : z.cells.size = size) (hsz : 0 < size)
    (v : Value) (n : Nat) (xs : List Value) (hs : a.eval s = v) (hown : w.ownsRow base e size v n xs) (g : Nat) (news : List Value)
    (hx : a.eval x = .slice (some ⟨g, 0, none⟩) 1 1) (hl : news.length = size) (hcell : ∀ (j : Nat) (u : Value), news[j]? = some u → w.cell? ⟨g, j, none⟩ = some u) (h1 : ∀ u ∈ news, u.oneCell' = true) (hn : n ≤ 100000) (hb : bytes ≤ 1000) (hbase : base ≤ w.heap.size)
    (h : ∀ A m c w', w'.ownsRow base e size (.slice A m c) (n + 1) (xs ++ news) → w.grownBy w' v.ownBlock → K (a.put o.dst (.slice A m c)) w') :
    if Region.wanted o (yielded ops a.tmps) = true then Oper.wp P o a w K Q else E := by
  have hw : Region.wanted o (yielded ops a.tmps) = true := by simp [Region.wanted, hgd]
  rw [if_pos hw]
  refine wp_append_own w s x t ho base e i z size bytes ht hi hz hsize hby hzs hsz v n xs hs hown ⟨g, 0, none⟩ 1 1 news hx (by omega) ?_ h1 (by unfold maxLen; omega) (Nat.le_trans (Nat.mul_le_mul (show n + 1 ≤ 1000000 by omega) hb) (by omega)) hbase ?_
  · intro j u hj
    rw [add_lit', Nat.zero_add]
    exact hcell j u hj
  · intro v' w' h2 h3 _
    obtain ⟨A, m, c, rfl⟩ := slice_form h2
    exact h A m c w' h2 h3
theorem own_only {w w' : World} {rb base : Nat} {e : TypeId} {size n : Nat} {v : Value} {xs : List Value} (h : w.ownsRow base e size v n xs) (ho : Only rb w w') (hb : rb < base) : w'.ownsRow base e size v n xs :=
  World.ownsRow.kept h (row := some rb) ⟨ho.os, ho.tape, ho.output, ho.size, fun k hk hn => ho.block k hk (fun e => hn (by rw [e]))⟩ (by
    cases hv : v.ownBlock with
    | none => exact Or.inl rfl
    | some k => exact Or.inr (fun e => by have := (World.ownsRow.lt h k hv).1; have := Option.some.inj e; omega))
theorem own_other {w w' : World} {base : Nat} {e e' : TypeId} {size n size' n' : Nat} {v v' : Value} {xs xs' : List Value} (h : w.ownsRow base e size v n xs) (h' : w.ownsRow base e' size' v' n' xs') (hne : e ≠ e') (hg : w.grownBy w' v'.ownBlock) : w'.ownsRow base e size v n xs := by
  refine World.ownsRow.kept h hg ?_
  rcases h.2 with ⟨rfl, _⟩ | ⟨g, cap, cur, rfl, _, hb, _⟩
  · exact Or.inl rfl
  · right
    intro he
    rcases h'.2 with ⟨rfl, _⟩ | ⟨g', cap', cur', rfl, _, hb', _⟩
    · cases he
    · have : g = g' := Option.some.inj he
      subst this
      rw [hb] at hb'
      simp only [Option.some.injEq, Obj.cells.injEq] at hb'
      exact hne hb'.2.1
theorem own_set {w : World} {base : Nat} {e : TypeId} {size n : Nat} {v : Value} {xs : List Value} (h : w.ownsRow base e size v n xs) (b j : Nat) (u : Value) (hb : b < base) : (w.setCell ⟨b, j, none⟩ u).ownsRow base e size v n xs :=
  own_only h (Only.setCell b j w u) hb
theorem grown_block {w w' : World} {base : Nat} {e T : TypeId} {size n : Nat} {v : Value} {xs : List Value} {k : Nat} {cs : Array Value} {fr : Nat × Nat} (h : w.ownsRow base e size v n xs) (hg : w.grownBy w' v.ownBlock) (hk : w.heap[k]? = some (.cells cs T fr)) (hb : k < base) : w'.heap[k]? = some (.cells cs T fr) := by
  rw [hg.block k (heap_lt hk) (fun e => by have := (World.ownsRow.lt h k e.symm).1; omega)]
  exact hk
theorem only_grown {rb : Nat} {w0 w w' : World} {base : Nat} {e : TypeId} {size n : Nat} {v : Value} {xs : List Value} (ho : Only rb w0 w) (h : w.ownsRow base e size v n xs) (hg : w.grownBy w' v.ownBlock) (hb : w0.heap.size ≤ base) : Only rb w0 w' :=
  ⟨hg.os.trans ho.os, hg.tape.trans ho.tape, hg.output.trans ho.output, Nat.le_trans ho.size hg.size, fun k hk hn => (hg.block k (Nat.lt_of_lt_of_le hk ho.size) (fun e => by have := (World.ownsRow.lt h k e.symm).1; omega)).trans (ho.block k hk hn)⟩
theorem only_new {rb : Nat} {w0 w : World} (ho : Only rb w0 w) {b : Nat} (hb : w0.heap.size ≤ b) (j : Nat) (u : Value) : Only rb w0 (w.setCell ⟨b, j, none⟩ u) :=
  ⟨ho.os, ho.tape, ho.output, by have := ho.size; simp [World.setCell]; exact this, fun k hk hn => (Below.heap_setCell _ _ _ _ (show k ≠ b by omega)).trans (ho.block k hk hn)⟩
/-- The authority that is being read lies in block ab: its numbers and its two rows; the reader in rb. -/
structure AInv (w0 : World) (rb ab : Nat) (x y : Int) (v : Value) (acc : List Seg) (v2 : Value) (acc2 : List Lnk) (w : World) : Prop where
  box : w.heap[ab]? = some (.cells #[.int .i64 x, .int .i64 y, v, v2] 65 (0, 0))
  own : w.ownsRow (ab + 1) 100 4 v acc.length (acc.flatMap Seg.cells)
  own2 : w.ownsRow (ab + 1) 77 2 v2 acc2.length (acc2.flatMap Lnk.cells)
  only : Only rb w0 w
section
variable {w0 w w' : World} {rb ab : Nat} {x y : Int} {v : Value} {acc : List Seg} {v2 : Value} {acc2 : List Lnk}
theorem AInv.lt (h : AInv w0 rb ab x y v acc v2 acc2 w) : ab < w.heap.size := heap_lt h.box
theorem AInv.step (h : AInv w0 rb ab x y v acc v2 acc2 w) (ho : Only rb w w') (hb : rb < ab) : AInv w0 rb ab x y v acc v2 acc2 w' :=
  ⟨(ho.block ab h.lt (by omega)).trans h.box, own_only h.own ho (by omega), own_only h.own2 ho (by omega), h.only.trans ho⟩
theorem AInv.drew (h : AInv w0 rb ab x y v acc v2 acc2 w) : AInv w0 rb ab x y v acc v2 acc2 w.drew := ⟨h.box, h.own, h.own2, ⟨h.only.os, h.only.tape, h.only.output, h.only.size, h.only.block⟩⟩
theorem AInv.alloc (h : AInv w0 rb ab x y v acc v2 acc2 w) (hb : rb < ab) (o : Obj) : AInv w0 rb ab x y v acc v2 acc2 (w.alloc o) := h.step (Only.of_below ((Below.refl _ _).alloc (Nat.le_refl _) o)) hb
theorem AInv.cells (h : AInv w0 rb ab x y v acc v2 acc2 w) : w.cell? ⟨ab, 2, none⟩ = some v ∧ w.cell? ⟨ab, 3, none⟩ = some v2 ∧ w.frozen? ⟨ab, 2, none⟩ = false ∧ w.frozen? ⟨ab, 3, none⟩ = false :=
  ⟨by rw [Lib.cell_of_heap h.box]; rfl, by rw [Lib.cell_of_heap h.box]; rfl, Lib.frozen_of_heap h.box 2, Lib.frozen_of_heap h.box 3⟩
theorem AInv.put {s : Seg} {A : Option Addr} {m c : Nat} (h : AInv w0 rb ab x y v acc v2 acc2 w) (hab : w0.heap.size ≤ ab) (hown : w'.ownsRow (ab + 1) 100 4 (.slice A m c) (acc.length + 1) (acc.flatMap Seg.cells ++ Seg.cells s)) (hg : w.grownBy w' v.ownBlock) :
    AInv w0 rb ab x y (.slice A m c) (acc ++ [s]) v2 acc2 (w'.setCell ⟨ab, 2, none⟩ (.slice A m c)) := by
  have hb := grown_block h.own hg h.box (by omega)
  have h2 := own_other h.own2 h.own (by decide) hg
  have h3 := only_grown h.only h.own hg (by omega)
  refine ⟨?_, ?_, own_set h2 _ _ _ (by omega), only_new h3 hab _ _⟩
  · rw [heap_set _ _ _ _ _ _ _ hb]; rfl
  · have := own_set hown ab 2 (.slice A m c) (by omega)
    simpa using this
theorem AInv.put2 {s : Lnk} {A : Option Addr} {m c : Nat} (h : AInv w0 rb ab x y v acc v2 acc2 w) (hab : w0.heap.size ≤ ab) (hown : w'.ownsRow (ab + 1) 77 2 (.slice A m c) (acc2.length + 1) (acc2.flatMap Lnk.cells ++ Lnk.cells s)) (hg : w.grownBy w' v2.ownBlock) :
    AInv w0 rb ab x y v acc (.slice A m c) (acc2 ++ [s]) (w'.setCell ⟨ab, 3, none⟩ (.slice A m c)) := by
  have hb := grown_block h.own2 hg h.box (by omega)
  have h2 := own_other h.own h.own2 (by decide) hg
  have h3 := only_grown h.only h.own2 hg (by omega)
  refine ⟨?_, own_set h2 _ _ _ (by omega), ?_, only_new h3 hab _ _⟩
  · rw [heap_set _ _ _ _ _ _ _ hb]; rfl
  · have := own_set hown ab 3 (.slice A m c) (by omega)
    simpa using this
theorem AInv.facts (h : AInv w0 rb ab x y v acc v2 acc2 w) (hg : w.grownBy w' v.ownBlock) : w'.frozen? ⟨ab, 2, none⟩ = false ∧ w'.cell? ⟨ab, 2, none⟩ = some v := by
  have hb := grown_block h.own hg h.box (by omega)
  exact ⟨Lib.frozen_of_heap hb 2, by rw [Lib.cell_of_heap hb]; rfl⟩
theorem AInv.facts2 (h : AInv w0 rb ab x y v acc v2 acc2 w) (hg : w.grownBy w' v2.ownBlock) : w'.frozen? ⟨ab, 3, none⟩ = false ∧ w'.cell? ⟨ab, 3, none⟩ = some v2 := by
  have hb := grown_block h.own2 hg h.box (by omega)
  exact ⟨Lib.frozen_of_heap hb 3, by rw [Lib.cell_of_heap hb]; rfl⟩
end
/-- A row that the call owns reads as data. -/
theorem rdS_own {α : Type} {n : Nat} {cells : α → List Value} {ok : α → Prop} {hn : ∀ a, (cells a).length = n} {w : World} {base : Nat} {e : TypeId} {v : Value} {l : List α} (h : w.ownsRow base e n v l.length (l.flatMap cells)) (hok : ∀ x ∈ l, ok x) :
    ∃ A c, v = .slice A l.length c ∧ RdS (cF n cells ok hn) w w.heap.size A l := by
  rcases h.2 with ⟨rfl, h0⟩ | ⟨g, cap, cur, rfl, _, hg, _, _, _, htake⟩
  · exact ⟨none, 0, by rw [h0], fun hl => by omega⟩
  · refine ⟨_, _, rfl, fun hl => ⟨g, 0, rfl, heap_lt hg, fun i x hx => ⟨cells x, ⟨rfl, hok x (List.mem_of_getElem? hx)⟩, fun j u hu => ?_⟩⟩⟩
    have hj : j < n := by have := (List.getElem?_eq_some_iff.1 hu).1; rw [hn] at this; exact this
    have key : ∀ (l : List α) (i : Nat) (x : α), l[i]? = some x → (l.flatMap cells)[i * n + j]? = (cells x)[j]? := by
      intro l
      induction l with
      | nil => intro i x hx; simp at hx
      | cons y r ih =>
        intro i x hx
        rw [List.flatMap_cons]
        cases i with
        | zero =>
          simp at hx
          subst hx
          rw [Nat.zero_mul, Nat.zero_add, List.getElem?_append_left (by rw [hn]; exact hj)]
        | succ i =>
          simp at hx
          rw [List.getElem?_append_right (by rw [hn, Nat.succ_mul]; omega), hn, show (i + 1) * n + j - n = i * n + j by rw [Nat.succ_mul]; omega]
          exact ih i x hx
    have h1 := key l i x hx
    rw [hu] at h1
    show w.cell? ⟨g, 0 + i * n + j, none⟩ = some u
    rw [Nat.zero_add, cell_of_row w g (i * n + j) cur e (0, 0) hg]
    have h2 : i * n + j < l.length * n := by
      have := (List.getElem?_eq_some_iff.1 hx).1
      have h3 : (i + 1) * n ≤ l.length * n := Nat.mul_le_mul_right n this
      rw [Nat.succ_mul] at h3
      omega
    rw [← htake, List.getElem?_take, if_pos h2] at h1
    simpa using h1
theorem Rdr.drew {rb : Nat} {t : List UInt8} {s : Int × Bool} {w : World} (h : Rdr rb t s w) : Rdr rb t s w.drew := h
theorem Rdr.alloc {rb : Nat} {t : List UInt8} {s : Int × Bool} {w : World} (h : Rdr rb t s w) (o : Obj) : Rdr rb t s (w.alloc o) := ⟨(Below.heap_alloc w o rb (heap_lt h.1)).trans h.1, h.2⟩
theorem Rdr.put {w0 w w' : World} {rb ab : Nat} {x y : Int} {v : Value} {acc : List Seg} {v2 : Value} {acc2 : List Lnk} {t : List UInt8} {s : Int × Bool} (hr : Rdr rb t s w) (hI : AInv w0 rb ab x y v acc v2 acc2 w) (hg : w.grownBy w' v.ownBlock) (hb : rb < ab) (j : Nat) (u : Value) : Rdr rb t s (w'.setCell ⟨ab, j, none⟩ u) :=
  ⟨(Below.heap_setCell _ _ _ _ (show rb ≠ ab by omega)).trans (grown_block hI.own hg hr.1 (by omega)), hr.2⟩
theorem Rdr.put2 {w0 w w' : World} {rb ab : Nat} {x y : Int} {v : Value} {acc : List Seg} {v2 : Value} {acc2 : List Lnk} {t : List UInt8} {s : Int × Bool} (hr : Rdr rb t s w) (hI : AInv w0 rb ab x y v acc v2 acc2 w) (hg : w.grownBy w' v2.ownBlock) (hb : rb < ab) (j : Nat) (u : Value) : Rdr rb t s (w'.setCell ⟨ab, j, none⟩ u) :=
  ⟨(Below.heap_setCell _ _ _ _ (show rb ≠ ab by omega)).trans (grown_block hI.own2 hg hr.1 (by omega)), hr.2⟩
end Go.Proofs.Ytlpkkcodmoklaaa
