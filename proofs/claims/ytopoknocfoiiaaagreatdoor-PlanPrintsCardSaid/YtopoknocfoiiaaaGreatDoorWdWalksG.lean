/- The walk of the reference's Lines. -/
import Derived.Test.YtopoknocfoiiaaaGreatDoorWdWalksF
namespace Go.Proofs.YtopoknocfoiiaaaGreatDoor
set_option linter.unusedVariables false
set_option linter.unusedSimpArgs false
open Go.RowKit
attribute [local go_sem] bs_size bs_get bs_append bs_extract bs_toList
/-- What the reference's loop keeps: the text is read up to place k, the word so far began at place f. -/
def SR (s : List UInt8) (out : Lns) (line : List (List UInt8)) (f k : Nat) : Prop := f ≤ k ∧ k ≤ s.length ∧ scan out line ((s.take k).drop f) (s.drop k) = linesF s
theorem SR_char {s : List UInt8} {out : Lns} {line : List (List UInt8)} {f k : Nat} (h : SR s out line f k) (hk : k < s.length) (h1 : s[k] ≠ 32) (h2 : s[k] ≠ 10) : SR s out line f (k + 1) := by
  obtain ⟨g1, g2, g3⟩ := h
  refine ⟨by omega, by omega, ?_⟩
  rw [List.drop_eq_getElem_cons hk, scan, if_neg (by simp [h1, h2])] at g3
  rw [drop_take_snoc g1 hk]
  exact g3
theorem SR_bad {s : List UInt8} {out : Lns} {line : List (List UInt8)} {f k : Nat} (h : SR s out line f k) (hk : k < s.length) (h1 : s[k] = 32 ∨ s[k] = 10) (hw : wordB ((s.take k).drop f) = false) : linesF s = ([], out.length + 1, 4) := by
  obtain ⟨g1, g2, g3⟩ := h
  rw [List.drop_eq_getElem_cons hk, scan, if_pos h1, if_neg (by simp [hw])] at g3
  exact g3.symm
theorem SR_word {s : List UInt8} {out : Lns} {line : List (List UInt8)} {f k : Nat} (h : SR s out line f k) (hk : k < s.length) (h1 : s[k] = 32) (hw : wordB ((s.take k).drop f) = true) : SR s out (line ++ [(s.take k).drop f]) (k + 1) (k + 1) := by
  obtain ⟨g1, g2, g3⟩ := h
  refine ⟨Nat.le_refl _, by omega, ?_⟩
  rw [List.drop_eq_getElem_cons hk, scan, if_pos (Or.inl h1), if_pos hw, if_neg (by rw [h1]; decide)] at g3
  have e : (s.take (k + 1)).drop (k + 1) = [] := List.drop_of_length_le (by rw [List.length_take]; omega)
  rw [e]
  exact g3
theorem SR_line {s : List UInt8} {out : Lns} {line : List (List UInt8)} {f k : Nat} (h : SR s out line f k) (hk : k < s.length) (h1 : s[k] = 10) (hw : wordB ((s.take k).drop f) = true) : SR s (out ++ [line ++ [(s.take k).drop f]]) [] (k + 1) (k + 1) := by
  obtain ⟨g1, g2, g3⟩ := h
  refine ⟨Nat.le_refl _, by omega, ?_⟩
  rw [List.drop_eq_getElem_cons hk, scan, if_pos (Or.inr h1), if_pos hw, if_pos h1] at g3
  have e : (s.take (k + 1)).drop (k + 1) = [] := List.drop_of_length_le (by rw [List.length_take]; omega)
  rw [e]
  exact g3
theorem SR_end {s : List UInt8} {out : Lns} {line : List (List UInt8)} {f k : Nat} (h : SR s out line f k) (hk : ¬ k < s.length) : linesF s = if f < s.length ∨ 0 < line.length then ([], out.length + 1, 4) else (out, 0, 0) := by
  obtain ⟨g1, g2, g3⟩ := h
  obtain rfl : k = s.length := by omega
  rw [List.drop_of_length_le (Nat.le_refl _), List.take_length, scan] at g3
  rw [← g3]
  by_cases hf : f < s.length
  · have : ¬ s.drop f = [] := fun e => by have := congrArg List.length e; simp at this; omega
    rw [if_pos (Or.inl hf), if_neg (fun e => this e.1)]
  · have e : s.drop f = [] := List.drop_of_length_le (by omega)
    by_cases hl : line = []
    · rw [if_pos ⟨e, hl⟩, if_neg (by simp [hf, hl])]
    · rw [if_neg (fun e => hl e.2), if_pos (Or.inr (List.length_pos_iff.2 hl))]
theorem rword_b (l : List UInt8) (b : Bool) (w : World) (hs : l.length ≤ maxLen) (h : wordB l = b) : Calls Tryz.prog 44 #[.string (bs l)] w fun e w' => e = .returned (.bool b) ∧ w = w' := h ▸ rword_any l w hs
end Go.Proofs.YtopoknocfoiiaaaGreatDoor
