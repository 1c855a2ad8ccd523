/- A whole slice appended to a row of the call's own, whose elements lead to blocks below it. Over any program. -/
import Derived.Test.YtopoknocfoiiaaaGreatDoorRow
import Derived.OwnWalk
namespace Go.Proofs.YtopoknocfoiiaaaGreatDoor
set_option linter.unusedVariables false
set_option linter.unusedSimpArgs false
open Go.RowKit
section
variable {α : Type} {c : Cod α} {w w' : World} {S : Nat → Prop}
theorem RdS.rest {b off : Nat} {x : α} {l : List α} (h : RdS c w S (some ⟨b, off, none⟩) (x :: l)) : RdS c w S (some ⟨b, off + c.size, none⟩) l := by
  intro hl
  obtain ⟨b', off', h1, h2, h3⟩ := h (by simp)
  simp only [Option.some.injEq, Addr.mk.injEq, and_true] at h1
  obtain ⟨rfl, rfl⟩ := h1
  refine ⟨_, _, rfl, h2, fun i y hy => ?_⟩
  obtain ⟨ys, h4, h5⟩ := h3 (i + 1) y (by simpa using hy)
  refine ⟨ys, h4, fun j u hu => ?_⟩
  have := h5 j u hu
  rw [show off + (i + 1) * c.size + j = off + c.size + i * c.size + j by rw [Nat.succ_mul]; omega] at this
  exact this
/-- The cells of a row, all in one list. -/
theorem RdS.cells : ∀ {l : List α} {b off : Nat}, RdS c w S (some ⟨b, off, none⟩) l → ∃ news, RdC c w S news l ∧ ∀ (j : Nat) (u : Value), news[j]? = some u → w.cell? ⟨b, off + j, none⟩ = some u
  | [], b, off, _ => ⟨[], rfl, fun j u h => by simp at h⟩
  | x :: l, b, off, h => by
    obtain ⟨b', off', h1, h2, h3⟩ := h (by simp)
    simp only [Option.some.injEq, Addr.mk.injEq, and_true] at h1
    obtain ⟨rfl, rfl⟩ := h1
    obtain ⟨ys, h4, h5⟩ := h3 0 x rfl
    obtain ⟨zs, h6, h7⟩ := RdS.cells h.rest
    refine ⟨ys ++ zs, ⟨ys, zs, rfl, h4, h6⟩, fun j u hu => ?_⟩
    have hn := c.len h4
    by_cases hj : j < ys.length
    · rw [List.getElem?_append_left hj] at hu
      have := h5 j u hu
      rw [Nat.zero_mul, Nat.add_zero] at this
      exact this
    · rw [List.getElem?_append_right (by omega), hn] at hu
      have := h7 _ u hu
      rw [show off + c.size + (j - c.size) = off + j by omega] at this
      exact this
theorem RdC.app : ∀ {l m : List α} {xs ys : List Value}, RdC c w S xs l → RdC c w S ys m → RdC c w S (xs ++ ys) (l ++ m)
  | [], m, xs, ys, h, h2 => by simp [RdC] at h; subst h; exact h2
  | a :: l, m, xs, ys, ⟨y, z, h1, h2, h3⟩, h4 => ⟨y, z ++ ys, by rw [h1, List.append_assoc], h2, RdC.app h3 h4⟩
theorem RdC.one (hone : ∀ (ys : List Value) (x : α), c.rd w S ys x → ∀ u ∈ ys, u.oneCell' = true) : ∀ {l : List α} {xs : List Value}, RdC c w S xs l → ∀ u ∈ xs, u.oneCell' = true
  | [], xs, h, u, hu => by simp [RdC] at h; subst h; simp at hu
  | a :: l, xs, ⟨y, z, h1, h2, h3⟩, u, hu => by
    rw [h1] at hu
    rcases List.mem_append.1 hu with hu | hu
    · exact hone y a h2 u hu
    · exact RdC.one hone h3 u hu
end
/-- A slice of the call's own, from block base on, whose elements lead to blocks below base. -/
def LowR {α : Type} (c : Cod α) (w : World) (base : Nat) (e : TypeId) (v : Value) (l : List α) : Prop := ∃ xs, w.ownsRow base e c.size v l.length xs ∧ RdC c w (fun b => b < base) xs l ∧ base ≤ w.heap.size
section
variable {α : Type} {c : Cod α} {w w' : World} {base : Nat} {e : TypeId} {v : Value} {l : List α}
/-- An empty row in a block of its own. -/
theorem LowR.empty (c : Cod α) (w : World) (e : TypeId) : LowR c (w.alloc (.cells #[] e)) w.heap.size e (.slice (some ⟨w.heap.size, 0, none⟩) 0 0) ([] : List α) :=
  ⟨[], ⟨by simp, Or.inr ⟨_, 0, #[], rfl, Nat.le_refl _, heap_alloc_new w _, Nat.le_refl _, Nat.zero_le _, by simp, by simp⟩⟩, rfl, by simp⟩
theorem LowR.reads (h : LowR c w base e v l) : ∃ A cap, v = .slice A l.length cap ∧ (l.length ≤ maxLen ∧ l.length ≤ cap) ∧ RdS c w (Lt w) A l := by
  obtain ⟨xs, h1, h2, h3⟩ := h
  rcases h1.2 with ⟨rfl, h0⟩ | ⟨g, cap, cur, rfl, hb, hg, hcap, hm, htake⟩
  · exact ⟨none, 0, by rw [h0], by omega, fun hl => by omega⟩
  · refine ⟨_, _, rfl, ⟨Nat.le_trans hcap hm, hcap⟩, fun _ => ⟨g, 0, rfl, lt_heap hg, fun i x hx => ?_⟩⟩
    obtain ⟨ys, h4, h5⟩ := h2.get hx
    refine ⟨ys, c.more h4 (fun b hb => Nat.lt_of_lt_of_le hb h3), fun j u hu => ?_⟩
    have h6 := h5 j u hu
    rw [Nat.zero_add, cell_of_row w g _ cur e (0, 0) hg]
    rw [← htake.2, List.getElem?_take] at h6
    split at h6
    · simpa using h6
    · cases h6
end
section
variable {P : Program} {α : Type} {c : Cod α}
theorem run_app_nil (w : World) (base : Nat) (t ty e : TypeId) (i : TypeInfo) (size : Nat) (ht : P.underlying t = some (.slice e)) (hi : P.info? e = some i)
    (v : Value) (n : Nat) (xs : List Value) (hown : w.ownsRow base e size v n xs) (k : Nat) : (Builtin.append_ #[t, t] ty #[v, .slice none 0 k]).run P w = .ok v w := by
  rcases hown.2 with ⟨rfl, rfl⟩ | ⟨g, cap, cur, rfl, _, _, hnc, _⟩
  · simp [Builtin.append_, run_underlying ht, sizeOf, typeInfo, hi, Builtin.lenOf, Builtin.firstCells]
  · simp [Builtin.append_, run_underlying ht, sizeOf, typeInfo, hi, Builtin.lenOf, Builtin.firstCells, hnc, storeCells]
theorem wpList_append_low (w : World) {ops : Array Oper} {rest : List Oper} {o : Oper} {a : Act} {Q : Exit → Act → World → Prop} (hgd : o.guard = none) (s x : Operand) (t : TypeId)
    (ho : o.op = .call { callee := .builtin .append, args := #[s, x], argTypes := #[t, t] })
    (base : Nat) (e : TypeId) (i : TypeInfo) (z : Value) (bytes : Nat) (ht : P.underlying t = some (.slice e)) (hi : P.info? e = some i) (hz : i.zero = some z) (hsize : i.size = c.size) (hby : i.bytes = bytes) (hzs : z.cells.size = c.size) (hc : 0 < c.size)
    (v : Value) (l : List α) (hs : a.eval s = v) (hown : LowR c w base e v l) (A : Option Addr) (k : Nat) (l2 : List α) (hx : a.eval x = .slice A l2.length k) (hr : RdS c w (fun b => b < base) A l2)
    (hone : ∀ (ys : List Value) (x : α), c.rd w (fun b => b < base) ys x → ∀ u ∈ ys, u.oneCell' = true) (hlen : l.length + l2.length ≤ 100000) (hbl : bytes ≤ 1000)
    (h : ∀ v' w', LowR c w' base e v' (l ++ l2) → Below base w w' → wpList P ops Q rest (a.put o.dst v') w') : wpList P ops Q (o :: rest) a w := by
  obtain ⟨xs, h1, h2, hbase⟩ := hown
  cases A with
  | none =>
    have hl2 : l2 = [] := by
      cases l2 with
      | nil => rfl
      | cons y r => obtain ⟨b, off, h3, _⟩ := hr (by simp); cases h3
    subst hl2
    refine wpList_plain hgd fun K hK => ?_
    have hrun := run_app_nil (P := P) w base t o.type e i c.size ht hi v l.length xs h1 k
    unfold Oper.wp execOp
    simp only [List.length_nil] at hx
    simp only [ho, resolve, invoke, builtin, Sem.run_bind, Sem.run_pure, Result.andThen_ok, List.map_toArray, List.map_cons, List.map_nil, hs, hx, hrun]
    exact hK _ _ (h v w (by rw [List.append_nil]; exact ⟨xs, h1, h2, hbase⟩) (Below.refl _ _))
  | some ad =>
    obtain ⟨news, h3, h4⟩ : ∃ news, RdC c w (fun b => b < base) news l2 ∧ ∀ (j : Nat) (u : Value), news[j]? = some u → w.cell? (ad.add j) = some u := by
      cases l2 with
      | nil => exact ⟨[], rfl, fun j u hu => by simp at hu⟩
      | cons y r =>
        obtain ⟨b, off, h5, _⟩ := hr (by simp)
        simp only [Option.some.injEq] at h5
        subst h5
        obtain ⟨news, h6, h7⟩ := hr.cells
        refine ⟨news, h6, fun j u hu => ?_⟩
        have : (⟨b, off, none⟩ : Addr).add j = ⟨b, off + j, none⟩ := by
          unfold Addr.add
          split
          · rename_i h0; subst h0; rfl
          · rfl
        rw [this]
        exact h7 j u hu
    refine wpList_append_own _ hgd s x t ho base e i z c.size bytes ht hi hz hsize hby hzs hc v l.length xs hs h1 ad l2.length k news hx h3.len h4 (h3.one hone)
      (by unfold maxLen; omega) (Nat.le_trans (Nat.mul_le_mul (show l.length + l2.length ≤ 1000000 by omega) hbl) (by omega)) hbase ?_
    intro v' w' h5 h6 _
    have hf := frm_of h1 h6
    have hb : Below base w w' := ⟨hf.os, hf.tape, hf.output, hf.size, fun k hk => hf.low k hk (by omega)⟩
    refine h v' w' ⟨xs ++ news, by rw [List.length_append]; exact h5, ?_, Nat.le_trans hbase hf.size⟩ hb
    exact (h2.app h3).keep fun p hp => cell_same (hb.block _ hp)
end
end Go.Proofs.YtopoknocfoiiaaaGreatDoor
