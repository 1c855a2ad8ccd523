/- One value of one cell appended to a slice that the call itself made. -/
import Derived.Test.YtlpkkcodmoklaaaOwn
namespace Go.Proofs.Ytlpkkcodmoklaaa
open Go.RowKit
/-- The value v is a slice that owns the cells xs, one for each element. -/
def OwnV (w : World) (base : Nat) (e : TypeId) (v : Value) (xs : List Value) : Prop := w.ownsRow base e 1 v xs.length xs
theorem OwnV.nil (w : World) (base : Nat) (e : TypeId) : OwnV w base e (.slice none 0 0) [] := World.ownsRow_nil w base e 1
theorem OwnV.below {w w' : World} {base : Nat} {e : TypeId} {v : Value} {xs : List Value} (h : OwnV w base e v xs) (hb : Below w.heap.size w w') : OwnV w' base e v xs :=
  World.ownsRow.kept h (row := none) ⟨hb.os, hb.tape, hb.output, hb.size, fun i hi _ => hb.block i hi⟩ (by cases hv : v.ownBlock <;> simp)
section
variable {P : Program} (w : World)
theorem wpList_append_v {ops : Array Oper} {rest : List Oper} {o : Oper} {a : Act} {Q : Exit → Act → World → Prop} (hgd : o.guard = none) (s x : Operand) (t : TypeId)
    (ho : o.op = .call { callee := .builtin .append, args := #[s, x], argTypes := #[t, t] })
    (base : Nat) (e : TypeId) (i : TypeInfo) (z : Value) (bytes : Nat) (ht : P.underlying t = some (.slice e)) (hi : P.info? e = some i) (hz : i.zero = some z) (hsize : i.size = 1) (hby : i.bytes = bytes) (hzs : z.cells.size = 1)
    (v : Value) (xs : List Value) (hs : a.eval s = v) (hown : OwnV w base e v xs) (c : Value) (hc : c.oneCell' = true) (tt : TypeId)
    (hx : a.eval x = .slice (some ⟨w.heap.size, 0, none⟩) 1 1) (hlen : xs.length + 1 ≤ 1000000000) (hbl : bytes ≤ 1000) (hbase : base ≤ w.heap.size)
    (h : ∀ v' w', OwnV w' base e v' (xs ++ [c]) → Keeps base w w' → wpList P ops Q rest (a.put o.dst v') w') : wpList P ops Q (o :: rest) a (w.alloc (.cells #[c] tt)) := by
  have hown' := World.ownsRow.alloc hown (.cells #[c] tt)
  refine wpList_append_own _ hgd s x t ho base e i z 1 bytes ht hi hz hsize hby hzs (by omega) v xs.length xs hs hown' ⟨w.heap.size, 0, none⟩ 1 1 [c] hx rfl ?_ (by intro u hu; simp at hu; subst hu; exact hc)
    (by unfold maxLen; omega) (Nat.le_trans (Nat.mul_le_mul hlen hbl) (by omega)) (by simp; omega) ?_
  · intro j u hj
    match j, hj with
    | 0, hj =>
      simp at hj
      subst hj
      simp [Addr.add]
    | j + 1, hj => simp at hj
  · intro v' w' h1 h2 _
    refine h v' w' ?_ ?_
    · unfold OwnV
      rw [List.length_append]
      exact h1
    · intro B w0 hB hb
      exact (hb.alloc (Nat.le_trans hB hbase) _).grown h2 (by simp; omega) fun k hk => Nat.le_trans hB (World.ownsRow.lt hown k hk).1
end
end Go.Proofs.Ytlpkkcodmoklaaa
