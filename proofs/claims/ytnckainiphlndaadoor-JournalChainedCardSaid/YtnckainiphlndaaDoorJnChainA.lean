/- A row of entries that the call itself made: one field of one entry turned, one entry taken out. -/
import Derived.Test.YtnckainiphlndaaDoorJnMade
namespace Go.Proofs.YtnckainiphlndaaDoor
set_option linter.unusedVariables false
set_option linter.unusedSimpArgs false
open Go.RowKit
theorem cellsE_at (l : List Ent) (q : Nat) : (cellsE l)[q]? = (l[q / 3]?).bind fun x => (entV x)[q % 3]? := by
  by_cases h : q / 3 < l.length
  · have e := cellsE_get l (q / 3) (q % 3) l[q / 3] (List.getElem?_eq_getElem h) (Nat.mod_lt _ (by omega))
    rw [show q / 3 * 3 + q % 3 = q by omega] at e
    rw [e, List.getElem?_eq_getElem h]
    rfl
  · rw [List.getElem?_eq_none (by rw [cellsE_len]; omega), List.getElem?_eq_none (by omega)]
    rfl
/-- One field turned. -/
theorem cellsE_set (l : List Ent) (i f : Nat) (x : Ent) (u : Value) (hi : i < l.length) (hf : f < 3) (hx : entV x = (entV l[i]).set f u) : cellsE (l.set i x) = (cellsE l).set (i * 3 + f) u := by
  apply List.ext_getElem?
  intro q
  rw [cellsE_at, List.getElem?_set, List.getElem?_set, cellsE_len, cellsE_at]
  by_cases h : i = q / 3
  · subst h
    rw [if_pos rfl, if_pos hi]
    have hl : l[q / 3]? = some l[q / 3] := List.getElem?_eq_getElem hi
    rw [hl]
    simp only [Option.bind_some]
    rw [hx, List.getElem?_set, entV_len]
    by_cases h2 : f = q % 3
    · rw [if_pos h2, if_pos (by omega), if_pos (by omega), if_pos (by omega)]
    · rw [if_neg h2, if_neg (by omega)]
  · rw [if_neg h, if_neg (by omega)]
/-- A row of the call's own, in block g. -/
def KRow (w : World) (T : TypeId) (g cap : Nat) (l : List Ent) : Prop := ∃ cur : Array Value, Blk w g T cur ∧ cur.size = cap * 3 ∧ cur.toList.take (l.length * 3) = cellsE l ∧ (l.length ≤ cap ∧ cap ≤ maxLen) ∧ ∀ x ∈ l, entO x
theorem KRow.now {w w' : World} {T : TypeId} {g cap : Nat} {l : List Ent} (h : KRow w T g cap l) (hb : Below w.heap.size w w') : KRow w' T g cap l := by
  obtain ⟨cur, h1, h2⟩ := h
  exact ⟨cur, h1.now hb, h2⟩
theorem KRow.rds {w : World} {T : TypeId} {g cap : Nat} {l : List Ent} (h : KRow w T g cap l) : RdS cE w (Lt w) (some ⟨g, 0, none⟩) l := by
  obtain ⟨cur, h1, h2, h3, h4, h5⟩ := h
  refine fun _ => ⟨g, 0, rfl, h1.lt, fun i x hx => ⟨entV x, ⟨rfl, h5 x (List.mem_of_getElem? hx)⟩, fun j u hu => ?_⟩⟩
  have hj : j < 3 := (List.getElem?_eq_some_iff.1 hu).1
  have hi := (List.getElem?_eq_some_iff.1 hx).1
  have e := cellsE_get l i j x hx hj
  rw [hu, ← h3, List.getElem?_take, if_pos (by omega)] at e
  rw [h1.cell]
  show cur[0 + i * 3 + j]? = some u
  rw [Nat.zero_add, ← e, Array.getElem?_toList]
theorem KRow.cap_le {w : World} {T : TypeId} {g cap : Nat} {l : List Ent} (h : KRow w T g cap l) : l.length ≤ cap ∧ cap ≤ maxLen := by
  obtain ⟨cur, h1, h2, h3, h4, h5⟩ := h
  exact h4
theorem KRow.of_own {w : World} {base : Nat} {T : TypeId} {v : Value} {l : List Ent} (h : w.ownsRow base T 3 v l.length (cellsE l)) (hl : 0 < l.length) (ho : ∀ x ∈ l, entO x) : ∃ g cap, v = .slice (some ⟨g, 0, none⟩) l.length cap ∧ base ≤ g ∧ KRow w T g cap l := by
  rcases h.2 with ⟨_, h0⟩ | ⟨g, cap, cur, rfl, h1, h2, h3, h4, h5, h6⟩
  · omega
  · exact ⟨g, cap, rfl, h1, cur, h2, h5, h6, ⟨h3, h4⟩, ho⟩
theorem KRow.set {w : World} {T : TypeId} {g cap : Nat} {l : List Ent} (h : KRow w T g cap l) {i f : Nat} {x : Ent} {u : Value} (hi : i < l.length) (hf : f < 3) (hx : entV x = (entV l[i]).set f u) (hxo : entO x) : KRow (w.setCell ⟨g, i * 3 + f, none⟩ u) T g cap (l.set i x) := by
  obtain ⟨cur, h1, h2, h3, h4, h5⟩ := h
  refine ⟨cur.setIfInBounds (i * 3 + f) u, h1.set _ _, by rw [Array.size_setIfInBounds]; exact h2, ?_, by rw [List.length_set]; exact h4, fun y hy => ?_⟩
  · rw [List.length_set, cellsE_set l i f x u hi hf hx, ← h3, Array.toList_setIfInBounds, List.take_set]
  · rcases List.mem_or_eq_of_mem_set hy with h | rfl
    · exact h5 y h
    · exact hxo
end Go.Proofs.YtnckainiphlndaaDoor
