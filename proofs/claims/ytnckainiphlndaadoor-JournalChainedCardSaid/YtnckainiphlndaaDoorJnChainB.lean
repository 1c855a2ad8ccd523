/- One entry taken out of a row of the call's own. -/
import Derived.Test.YtnckainiphlndaaDoorJnChainA
import Derived.Deep.Upon
namespace Go.Proofs.YtnckainiphlndaaDoor
set_option linter.unusedVariables false
set_option linter.unusedSimpArgs false
open Go.RowKit
theorem blk_setCells {g : Nat} {T : TypeId} : ∀ (vs : List Value) (o : Nat) (w : World) (cs : Array Value), Blk w g T cs → o + vs.length ≤ cs.size → ∃ cs', Blk (w.setCells g o vs) g T cs' ∧ cs'.size = cs.size ∧ (∀ j, j < vs.length → cs'[o + j]? = vs[j]?) ∧ ∀ j, (j < o ∨ o + vs.length ≤ j) → cs'[j]? = cs[j]?
  | [], _, _, cs, h, _ => ⟨cs, h, rfl, fun j hj => absurd hj (by simp), fun _ _ => rfl⟩
  | v :: vs, o, w, cs, h, ho => by
    simp only [List.length_cons] at ho
    obtain ⟨cs', h1, h2, h3, h4⟩ := blk_setCells vs (o + 1) _ _ (h.set o v) (by rw [Array.size_setIfInBounds]; omega)
    refine ⟨cs', h1, by rw [h2, Array.size_setIfInBounds], fun j hj => ?_, fun j hj => ?_⟩
    · cases j with
      | zero =>
        rw [Nat.add_zero, h4 o (Or.inl (by omega)), Array.getElem?_setIfInBounds_self_of_lt (by omega)]
        rfl
      | succ j =>
        have := h3 j (by simpa using hj)
        rw [show o + (j + 1) = o + 1 + j by omega, this]
        rfl
    · simp only [List.length_cons] at hj
      rw [h4 j (by omega), Array.getElem?_setIfInBounds_ne (by omega)]
theorem KRow.drop {w : World} {T : TypeId} {g cap : Nat} {l : List Ent} (h : KRow w T g cap l) {i : Nat} (hi : i < l.length) : KRow (w.setCells g (i * 3) (cellsE (l.drop (i + 1)))) T g cap (l.take i ++ l.drop (i + 1)) := by
  obtain ⟨cur, h1, h2, h3, h4, h5⟩ := h
  have hd : (cellsE (l.drop (i + 1))).length = (l.length - (i + 1)) * 3 := by rw [cellsE_len, List.length_drop]
  obtain ⟨cs', g1, g2, g3, g4⟩ := blk_setCells (cellsE (l.drop (i + 1))) (i * 3) w cur h1 (by omega)
  have hn : (l.take i ++ l.drop (i + 1)).length = l.length - 1 := by simp; omega
  refine ⟨cs', g1, by rw [g2]; exact h2, ?_, by rw [hn]; omega, fun x hx => h5 x ?_⟩
  · rw [hn, cellsE_append]
    have hti : (cellsE (l.take i)).length = i * 3 := by rw [cellsE_len, List.length_take, Nat.min_eq_left (by omega)]
    apply List.ext_getElem?
    intro q
    rw [List.getElem?_take]
    by_cases hq : q < (l.length - 1) * 3
    · rw [if_pos hq]
      by_cases hq2 : q < i * 3
      · rw [List.getElem?_append_left (by omega), Array.getElem?_toList, g4 q (Or.inl hq2)]
        have e : (cellsE l)[q]? = (cellsE (l.take i))[q]? := by
          conv => lhs; rw [← List.take_append_drop i l, cellsE_append]
          rw [List.getElem?_append_left (by omega)]
        rw [← e, ← h3, List.getElem?_take, if_pos (by omega), Array.getElem?_toList]
      · rw [List.getElem?_append_right (by omega), hti, Array.getElem?_toList]
        have := g3 (q - i * 3) (by rw [hd]; omega)
        rw [show i * 3 + (q - i * 3) = q by omega] at this
        exact this
    · rw [if_neg hq, List.getElem?_eq_none]
      rw [List.length_append, hti, hd]
      omega
  · rcases List.mem_append.1 hx with h | h
    · exact List.mem_of_mem_take h
    · exact List.mem_of_mem_drop h
end Go.Proofs.YtnckainiphlndaaDoor
