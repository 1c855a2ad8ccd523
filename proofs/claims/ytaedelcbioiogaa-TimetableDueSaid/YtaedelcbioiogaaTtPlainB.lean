/- Plain laws of delays: the pairs of stops and starts, one by one. -/
import Derived.Test.YtaedelcbioiogaaTtPlain
namespace Go.Proofs.Ytaedelcbioiogaa
set_option linter.unusedVariables false
set_option linter.unusedSimpArgs false
def upTo (l : List Trp) (s : List (List Int)) (i j : Nat) : List (Stp × Int) := pairs (l.take i) (s.take i) ++ ((l.getD i nt).2.zip (s.getD i [])).take j
section
variable {l : List Trp} {s : List (List Int)} {i j : Nat}
theorem upTo_zero : upTo l s 0 0 = [] := by simp [upTo, pairs]
theorem upTo_nil : upTo l s i 0 = pairs (l.take i) (s.take i) := by simp [upTo]
theorem upTo_step (hi : i < l.length) (hi' : i < s.length) (hj : j < l[i].2.length) (hj' : j < s[i].length) : upTo l s i (j + 1) = upTo l s i j ++ [(l[i].2[j], s[i][j])] := by
  unfold upTo
  have e1 : l.getD i nt = l[i] := by simp [hi]
  have e2 : s.getD i [] = s[i] := by simp [hi']
  rw [e1, e2, List.take_succ_eq_append_getElem (show j < (l[i].2.zip s[i]).length by simp; omega), List.append_assoc]
  simp
theorem pairs_take (hi : i < l.length) (hi' : i < s.length) : pairs (l.take (i + 1)) (s.take (i + 1)) = pairs (l.take i) (s.take i) ++ l[i].2.zip s[i] := by
  unfold pairs
  rw [List.take_succ_eq_append_getElem hi, List.take_succ_eq_append_getElem hi', List.zip_append (by simp; omega), List.flatMap_append]
  simp
theorem upTo_row (hi : i < l.length) (hi' : i < s.length) (e : l[i].2.length = s[i].length) : upTo l s i l[i].2.length = upTo l s (i + 1) 0 := by
  rw [upTo_nil, pairs_take hi hi']
  unfold upTo
  have e1 : l.getD i nt = l[i] := by simp [hi]
  have e2 : s.getD i [] = s[i] := by simp [hi']
  rw [e1, e2]
  congr 1
  exact List.take_of_length_le (by rw [List.length_zip]; omega)
theorem upTo_end (h : l.length = s.length) : upTo l s l.length 0 = pairs l s := by
  rw [upTo_nil, List.take_length, h, List.take_length]
theorem mem_pairs (hi : i < l.length) (hi' : i < s.length) (hj : j < l[i].2.length) (hj' : j < s[i].length) : (l[i].2[j], s[i][j]) ∈ pairs l s := by
  unfold pairs
  rw [List.mem_flatMap]
  refine ⟨(l[i], s[i]), ?_, ?_⟩
  · rw [List.mem_iff_getElem]
    exact ⟨i, by simp; omega, by simp⟩
  · rw [List.mem_iff_getElem]
    exact ⟨j, by simp; omega, by simp⟩
theorem pairs_no {p : Stp × Int → Bool} (hi : i < l.length) (hi' : i < s.length) (hj : j < l[i].2.length) (hj' : j < s[i].length) (h : p (l[i].2[j], s[i][j]) = false) : (pairs l s).all p = false := by
  rw [List.all_eq_false]
  exact ⟨_, mem_pairs hi hi' hj hj', by simp [h]⟩
theorem delay_shape (h : shapeB l s = false) : delayOf l s = (0, 1) := by unfold delayOf; rw [if_pos h]
theorem delay_arg (hi : i < l.length) (hi' : i < s.length) (hj : j < l[i].2.length) (hj' : j < s[i].length) (h : argB (l[i].2[j], s[i][j]) = false) : delayOf l s = (0, 1) := by
  unfold delayOf
  split
  · rfl
  · rw [if_pos (pairs_no hi hi' hj hj' h)]
theorem delay_late (h1 : shapeB l s = true) (h2 : (pairs l s).all argB = true) (hi : i < l.length) (hi' : i < s.length) (hj : j < l[i].2.length) (hj' : j < s[i].length) (h : lateB (l[i].2[j], s[i][j]) = false) : delayOf l s = (0, 7) := by
  unfold delayOf
  rw [if_neg (by simp [h1]), if_neg (by simp [h2]), if_pos (pairs_no hi hi' hj hj' h)]
theorem delay_early (h1 : shapeB l s = true) (h2 : (pairs l s).all argB = true) (h3 : (pairs l s).all lateB = false) : delayOf l s = (0, 7) := by
  unfold delayOf
  rw [if_neg (by simp [h1]), if_neg (by simp [h2]), if_pos h3]
theorem delay_ok (h1 : shapeB l s = true) (h2 : (pairs l s).all argB = true) (h3 : (pairs l s).all lateB = true) : delayOf l s = (sumOf (pairs l s), 0) := by
  unfold delayOf
  rw [if_neg (by simp [h1]), if_neg (by simp [h2]), if_neg (by simp [h3])]
theorem sumOf_snoc (l : List (Stp × Int)) (x : Stp × Int) : sumOf (l ++ [x]) = sumOf l + costOf x := by simp [sumOf]
theorem shape_len (h : shapeB l s = true) : l.length = s.length := by
  unfold shapeB at h
  simp only [Bool.and_eq_true, decide_eq_true_eq] at h
  exact h.1
theorem shape_row (h : shapeB l s = true) (hi : i < l.length) (hi' : i < s.length) : l[i].2.length = s[i].length := by
  unfold shapeB at h
  simp only [Bool.and_eq_true] at h
  have := all_at h.2 (k := i) (by simp; omega)
  simpa using this
theorem few_len (h : fewB l = true) : l.length ≤ 20 := by
  unfold fewB at h
  simp only [Bool.and_eq_true, decide_eq_true_eq] at h
  exact h.1
theorem few_row (h : fewB l = true) (hi : i < l.length) : l[i].2.length ≤ 20 := by
  unfold fewB at h
  simp only [Bool.and_eq_true] at h
  have := all_at h.2 hi
  simpa using this
end
/-- What one start adds is bounded. -/
theorem cost_bd {a1 a3 v : Int} (h1 : 0 ≤ v) (h2 : v ≤ 2147483648) (h3 : 0 ≤ a1) (h4 : a1 ≤ 1073741824) (h5 : 0 ≤ a3) (h6 : a3 ≤ 100) : -214748364800 ≤ a3 * (v - a1) ∧ a3 * (v - a1) ≤ 214748364800 := by
  have h7 : a3 * (v - a1) ≤ 100 * 2147483648 := by
    have : v - a1 ≤ 2147483648 := by omega
    by_cases h : 0 ≤ v - a1
    · exact Int.mul_le_mul h6 this h (by omega)
    · have := Int.mul_le_mul_of_nonneg_left (show v - a1 ≤ 0 by omega) h5
      omega
  have h8 : a3 * (a1 - v) ≤ 100 * 2147483648 := by
    have : a1 - v ≤ 2147483648 := by omega
    by_cases h : 0 ≤ a1 - v
    · exact Int.mul_le_mul h6 this h (by omega)
    · have := Int.mul_le_mul_of_nonneg_left (show a1 - v ≤ 0 by omega) h5
      omega
  have h9 : a3 * (a1 - v) = -(a3 * (v - a1)) := by rw [← Int.mul_neg]; congr 1; omega
  omega
theorem cost_nonneg {a1 a3 v : Int} (h : a1 ≤ v) (h5 : 0 ≤ a3) : 0 ≤ a3 * (v - a1) := Int.mul_nonneg h5 (by omega)
end Go.Proofs.Ytaedelcbioiogaa
