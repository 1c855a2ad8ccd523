/- Plain laws: a text parted at its first two spaces; and a row of texts of the call's own. -/
import Derived.Test.YtnckainiphlndaaDoorJnEntry
namespace Go.Proofs.YtnckainiphlndaaDoor
set_option linter.unusedVariables false
set_option linter.unusedSimpArgs false
open Go.RowKit
def stp (ps : List (List UInt8)) (c : UInt8) : List (List UInt8) := if c = 32 ∧ ps.length < 3 then ps ++ [[]] else ps.dropLast ++ [(ps.getLast?.getD []) ++ [c]]
def prs (l : List UInt8) : List (List UInt8) := l.foldl stp [[]]
theorem prs_snoc (l : List UInt8) (c : UInt8) : prs (l ++ [c]) = stp (prs l) c := by simp [prs]
theorem prs_at {l : List UInt8} {k : Nat} (h : k < l.length) : prs (l.take (k + 1)) = stp (prs (l.take k)) l[k] := by rw [List.take_succ_eq_append_getElem h, prs_snoc]
theorem stp_last (ps : List (List UInt8)) (x : List UInt8) (c : UInt8) (h : c ≠ 32 ∨ 2 ≤ ps.length) : stp (ps ++ [x]) c = ps ++ [x ++ [c]] := by
  unfold stp
  rw [if_neg (by simp only [List.length_append, List.length_singleton]; rintro ⟨h1, h2⟩; rcases h with h | h; exact h h1; omega)]
  simp
theorem stp_new (ps : List (List UInt8)) (h : ps.length < 3) : stp ps 32 = ps ++ [[]] := by unfold stp; rw [if_pos ⟨rfl, h⟩]
theorem fold_last (ps : List (List UInt8)) : ∀ (a x : List UInt8), (32 : UInt8) ∉ a ∨ 2 ≤ ps.length → a.foldl stp (ps ++ [x]) = ps ++ [x ++ a]
  | [], x, _ => by simp
  | c :: a, x, h => by
    rw [List.foldl_cons, stp_last ps x c (h.imp (fun h e => h (by simp [e])) id), fold_last ps a _ (h.imp (fun h e => h (by simp [e])) id)]
    simp
theorem prs_no {l : List UInt8} (h : (32 : UInt8) ∉ l) : prs l = [l] := by
  have := fold_last [] l [] (.inl h)
  simpa [prs] using this
theorem prs_one {a b : List UInt8} (ha : (32 : UInt8) ∉ a) (hb : (32 : UInt8) ∉ b) : prs (a ++ 32 :: b) = [a, b] := by
  have h1 := prs_no ha
  unfold prs at h1 ⊢
  rw [List.foldl_append, h1, List.foldl_cons, stp_new _ (by simp)]
  have := fold_last [a] b [] (.inl hb)
  simpa using this
theorem prs_two {a b : List UInt8} (c : List UInt8) (ha : (32 : UInt8) ∉ a) (hb : (32 : UInt8) ∉ b) : prs (a ++ 32 :: (b ++ 32 :: c)) = [a, b, c] := by
  have h1 := prs_one ha hb
  have e : a ++ 32 :: (b ++ 32 :: c) = (a ++ 32 :: b) ++ 32 :: c := by simp
  rw [e]
  unfold prs at h1 ⊢
  rw [List.foldl_append, h1, List.foldl_cons, stp_new _ (by simp)]
  have := fold_last [a, b] c [] (.inr (by simp))
  simpa using this
theorem stp_len (ps : List (List UInt8)) (c : UInt8) (h : 0 < ps.length) (h3 : ps.length ≤ 3) : 0 < (stp ps c).length ∧ (stp ps c).length ≤ 3 := by
  unfold stp
  split <;> simp <;> omega
theorem prs_len : ∀ (l : List UInt8), 0 < (prs l).length ∧ (prs l).length ≤ 3 := by
  intro l
  unfold prs
  have : ∀ (l : List UInt8) (ps : List (List UInt8)), 0 < ps.length → ps.length ≤ 3 → 0 < (l.foldl stp ps).length ∧ (l.foldl stp ps).length ≤ 3 := by
    intro l
    induction l with
    | nil => exact fun ps h1 h2 => ⟨h1, h2⟩
    | cons c r ih =>
      intro ps h1 h2
      obtain ⟨h3, h4⟩ := stp_len ps c h1 h2
      exact ih _ h3 h4
  exact this l [[]] (by simp) (by simp)
/-- All parts together are no longer than the text. -/
theorem stp_sum (ps : List (List UInt8)) (c : UInt8) : ∀ n, (∀ x ∈ ps, x.length ≤ n) → ∀ x ∈ stp ps c, x.length ≤ n + 1 := by
  intro n h x hx
  unfold stp at hx
  split at hx
  · rcases List.mem_append.1 hx with h1 | h1
    · have := h x h1; omega
    · simp at h1; subst h1; simp
  · rcases List.mem_append.1 hx with h1 | h1
    · have := h x (List.dropLast_subset _ h1); omega
    · simp only [List.mem_singleton] at h1
      subst h1
      cases hg : ps.getLast? with
      | none => simp
      | some y =>
        have := h y (List.mem_of_getLast? hg)
        simp; omega
theorem prs_sum : ∀ (k : Nat) (l : List UInt8), l.length = k → ∀ x ∈ prs l, x.length ≤ l.length
  | 0, l, hl => by
    obtain rfl := List.eq_nil_of_length_eq_zero hl
    intro x hx
    simp [prs] at hx
    simp [hx]
  | k + 1, l, hl => by
    have hk : k < l.length := by omega
    have e : l = l.take k ++ [l[k]] := by rw [← List.take_succ_eq_append_getElem hk, List.take_of_length_le (by omega)]
    have h1 : (l.take k).length = k := by rw [List.length_take]; omega
    have ih := prs_sum k (l.take k) h1
    intro x hx
    rw [e, prs_snoc] at hx
    have := stp_sum _ _ _ ih x hx
    omega
/-- A row of texts of the call's own, in block g. -/
def SRow (w : World) (T : TypeId) (g cap : Nat) (l : List (List UInt8)) : Prop := ∃ cur : Array Value, Blk w g T cur ∧ cur.size = cap ∧ cur.toList.take l.length = l.map (fun x => Value.string (bs x)) ∧ (l.length ≤ cap ∧ cap ≤ maxLen)
section
variable {w w' : World} {T : TypeId} {g cap : Nat} {l : List (List UInt8)}
theorem SRow.now (h : SRow w T g cap l) (hb : Below w.heap.size w w') : SRow w' T g cap l := by
  obtain ⟨cur, h1, h2⟩ := h
  exact ⟨cur, h1.now hb, h2⟩
theorem SRow.lt (h : SRow w T g cap l) : g < w.heap.size := by
  obtain ⟨cur, h1, h2⟩ := h
  exact h1.lt
theorem SRow.cap_le (h : SRow w T g cap l) : l.length ≤ cap ∧ cap ≤ maxLen := by
  obtain ⟨cur, h1, h2, h3, h4⟩ := h
  exact h4
theorem SRow.at (h : SRow w T g cap l) {i : Nat} (hi : i < l.length) : w.cell? ⟨g, i, none⟩ = some (.string (bs l[i])) ∧ ∀ q, w.frozen? ⟨g, q, none⟩ = false := by
  obtain ⟨cur, h1, h2, h3, h4⟩ := h
  refine ⟨?_, fun q => h1.free q⟩
  rw [h1.cell]
  have e : (cur.toList.take l.length)[i]? = some (.string (bs l[i])) := by rw [h3, List.getElem?_map, List.getElem?_eq_getElem hi]; rfl
  rw [List.getElem?_take, if_pos hi, Array.getElem?_toList] at e
  exact e
theorem SRow.own (h : SRow w T g cap l) {base : Nat} (hg : base ≤ g) : w.ownsRow base T 1 (.slice (some ⟨g, 0, none⟩) l.length cap) l.length (l.map fun x => Value.string (bs x)) := by
  obtain ⟨cur, h1, h2, h3, h4, h5⟩ := h
  exact ⟨by simp, Or.inr ⟨g, cap, cur, rfl, hg, h1, h4, h5, by omega, by simpa using h3⟩⟩
theorem SRow.of_own {base : Nat} {v : Value} (h : w.ownsRow base T 1 v l.length (l.map fun x => Value.string (bs x))) (hl : 0 < l.length) : ∃ g cap, v = .slice (some ⟨g, 0, none⟩) l.length cap ∧ base ≤ g ∧ SRow w T g cap l := by
  rcases h.2 with ⟨_, h0⟩ | ⟨g, cap, cur, rfl, h1, h2, h3, h4, h5, h6⟩
  · omega
  · exact ⟨g, cap, rfl, h1, cur, h2, by omega, by simpa using h6, h3, h4⟩
theorem SRow.set (h : SRow w T g cap l) {i : Nat} (x : List UInt8) (hi : i < l.length) : SRow (w.setCell ⟨g, i, none⟩ (.string (bs x))) T g cap (l.set i x) := by
  obtain ⟨cur, h1, h2, h3, h4⟩ := h
  refine ⟨cur.setIfInBounds i (.string (bs x)), h1.set _ _, by rw [Array.size_setIfInBounds]; exact h2, ?_, by rw [List.length_set]; exact h4⟩
  rw [List.length_set, Array.toList_setIfInBounds, List.take_set, h3, List.map_set]
end
end Go.Proofs.YtnckainiphlndaaDoor
