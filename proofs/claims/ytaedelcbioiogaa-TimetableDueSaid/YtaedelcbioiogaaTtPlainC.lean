/- Plain laws of starts that are equal to Due, and of one that is later. -/
import Derived.Test.YtaedelcbioiogaaTtPlainB
namespace Go.Proofs.Ytaedelcbioiogaa
set_option linter.unusedVariables false
set_option linter.unusedSimpArgs false
def dueRow (p : Trp) : List Int := p.2.map fun s => s.2.1
def dues (l : List Trp) : List (List Int) := l.map dueRow
theorem sumOf_append (a b : List (Stp × Int)) : sumOf (a ++ b) = sumOf a + sumOf b := by simp [sumOf]
theorem sumOf_cons (x : Stp × Int) (b : List (Stp × Int)) : sumOf (x :: b) = costOf x + sumOf b := by simp [sumOf]
theorem pairs_cons (p : Trp) (l : List Trp) (r : List Int) (s : List (List Int)) : pairs (p :: l) (r :: s) = p.2.zip r ++ pairs l s := by simp [pairs]
theorem row_zero : ∀ l : List Stp, sumOf (l.zip (l.map fun s => s.2.1)) = 0
  | [] => rfl
  | s :: l => by
    rw [List.map_cons, List.zip_cons_cons, sumOf_cons, row_zero l]
    simp [costOf]
theorem row_late : ∀ (l : List Stp) (k : Nat) (h : k < l.length), sumOf (l.zip ((l.map fun s => s.2.1).set k (l[k].2.1 + 1))) = l[k].2.2.2
  | [], k, h => by simp at h
  | s :: l, 0, h => by
    simp only [List.map_cons, List.set_cons_zero, List.zip_cons_cons, sumOf_cons, row_zero l, List.getElem_cons_zero, costOf]
    rw [show s.2.1 + 1 - s.2.1 = 1 by omega]
    omega
  | s :: l, k + 1, h => by
    simp only [List.map_cons, List.set_cons_succ, List.zip_cons_cons, sumOf_cons, List.getElem_cons_succ]
    rw [row_late l k (by simpa using h)]
    simp [costOf]
theorem all_zero : ∀ l : List Trp, sumOf (pairs l (dues l)) = 0
  | [] => rfl
  | p :: l => by
    rw [dues, List.map_cons, pairs_cons, sumOf_append, dueRow, row_zero]
    have := all_zero l
    rw [dues] at this
    rw [this]; rfl
/-- The starts with one that is later by one cycle. -/
def later (l : List Trp) (i k : Nat) : List (List Int) := (dues l).set i ((dueRow (l.getD i nt)).set k (((l.getD i nt).2.getD k ns).2.1 + 1))
theorem all_late : ∀ (l : List Trp) (i k : Nat) (hi : i < l.length) (hk : k < l[i].2.length), sumOf (pairs l (later l i k)) = l[i].2[k].2.2.2
  | [], i, k, hi, _ => by simp at hi
  | p :: l, 0, k, hi, hk => by
    have hk' : k < p.2.length := hk
    have e : later (p :: l) 0 k = (dueRow p).set k (p.2[k].2.1 + 1) :: dues l := by simp [later, dues, hk']
    rw [e, pairs_cons, sumOf_append, all_zero l, dueRow, row_late p.2 k hk']
    simp
  | p :: l, i + 1, k, hi, hk => by
    have e : later (p :: l) (i + 1) k = dueRow p :: later l i k := by simp [later, dues]
    rw [e, pairs_cons, sumOf_append, dueRow, row_zero, all_late l i k (by simpa using hi) (by simpa using hk)]
    simp
theorem zip_due : ∀ l : List Stp, l.zip (l.map fun s => s.2.1) = l.map fun s => (s, s.2.1)
  | [] => rfl
  | s :: l => by rw [List.map_cons, List.zip_cons_cons, zip_due l, List.map_cons]
/-- Each pair: its start is Due, or one more. -/
theorem row_near : ∀ (l : List Stp) (k : Nat) (c : Int), (∀ h : k < l.length, c = l[k].2.1 + 1) → ∀ x ∈ l.zip ((l.map fun s => s.2.1).set k c), x.1 ∈ l ∧ (x.2 = x.1.2.1 ∨ x.2 = x.1.2.1 + 1)
  | [], k, c, _, x, hx => by simp at hx
  | s :: l, 0, c, hc, x, hx => by
    simp only [List.map_cons, List.set_cons_zero, List.zip_cons_cons, List.mem_cons] at hx
    rcases hx with rfl | hx
    · exact ⟨by simp, .inr (hc (by simp))⟩
    · rw [zip_due, List.mem_map] at hx
      obtain ⟨y, hy, rfl⟩ := hx
      exact ⟨by simp [hy], .inl rfl⟩
  | s :: l, k + 1, c, hc, x, hx => by
    simp only [List.map_cons, List.set_cons_succ, List.zip_cons_cons, List.mem_cons] at hx
    rcases hx with rfl | hx
    · exact ⟨by simp, .inl rfl⟩
    · obtain ⟨h1, h2⟩ := row_near l k c (fun h => by have := hc (by simpa using h); simpa using this) x hx
      exact ⟨by simp [h1], h2⟩
theorem all_near : ∀ (l : List Trp) (i k : Nat), ∀ x ∈ pairs l (later l i k), (∃ p ∈ l, x.1 ∈ p.2) ∧ (x.2 = x.1.2.1 ∨ x.2 = x.1.2.1 + 1)
  | [], i, k, x, hx => by simp [pairs] at hx
  | p :: l, 0, k, x, hx => by
    have e : later (p :: l) 0 k = (dueRow p).set k ((p.2.getD k ns).2.1 + 1) :: dues l := by simp [later, dues]
    rw [e, pairs_cons, List.mem_append] at hx
    rcases hx with hx | hx
    · obtain ⟨h1, h2⟩ := row_near p.2 k _ (fun h => by simp [h]) x hx
      exact ⟨⟨p, by simp, h1⟩, h2⟩
    · have el : later l l.length 0 = dues l := by unfold later; rw [List.set_eq_of_length_le (by simp [dues])]
      rw [← el] at hx
      obtain ⟨⟨q, hq, h1⟩, h2⟩ := all_near l l.length 0 x hx
      exact ⟨⟨q, by simp [hq], h1⟩, h2⟩
  | p :: l, i + 1, k, x, hx => by
    have e : later (p :: l) (i + 1) k = dueRow p :: later l i k := by simp [later, dues]
    rw [e, pairs_cons, List.mem_append] at hx
    rcases hx with hx | hx
    · have el : p.2.zip (dueRow p) = p.2.zip ((dueRow p).set p.2.length 0) := by rw [List.set_eq_of_length_le (by simp [dueRow])]
      rw [el] at hx
      obtain ⟨h1, h2⟩ := row_near p.2 p.2.length 0 (fun h => absurd h (by omega)) x hx
      exact ⟨⟨p, by simp, h1⟩, h2⟩
    · obtain ⟨⟨q, hq, h1⟩, h2⟩ := all_near l i k x hx
      exact ⟨⟨q, by simp [hq], h1⟩, h2⟩
theorem dues_later (l : List Trp) : later l l.length 0 = dues l := by unfold later; rw [List.set_eq_of_length_le (by simp [dues])]
theorem near_ok {l : List Trp} {n : Nat} (h : l.all (trpB n) = true) (i k : Nat) : (pairs l (later l i k)).all argB = true ∧ (pairs l (later l i k)).all lateB = true := by
  rw [List.all_eq_true, List.all_eq_true]
  rw [List.all_eq_true] at h
  have key : ∀ x ∈ pairs l (later l i k), stpB n x.1 = true ∧ (x.2 = x.1.2.1 ∨ x.2 = x.1.2.1 + 1) := by
    intro x hx
    obtain ⟨⟨p, hp, h1⟩, h2⟩ := all_near l i k x hx
    have := h p hp
    unfold trpB at this
    simp only [Bool.and_eq_true, List.all_eq_true] at this
    exact ⟨this.2 _ h1, h2⟩
  refine ⟨fun x hx => ?_, fun x hx => ?_⟩
  · obtain ⟨h1, h2⟩ := key x hx
    simp only [stpB, decide_eq_true_eq] at h1
    simp only [argB, decide_eq_true_eq]
    omega
  · obtain ⟨h1, h2⟩ := key x hx
    simp only [lateB, decide_eq_true_eq]
    omega
theorem shape_later (l : List Trp) (i k : Nat) : shapeB l (later l i k) = true := by
  unfold shapeB
  rw [Bool.and_eq_true]
  refine ⟨by simp [later, dues], ?_⟩
  rw [List.all_eq_true]
  intro x hx
  obtain ⟨j, hj, rfl⟩ := List.getElem_of_mem hx
  simp [later, dues] at hj
  simp only [List.getElem_zip, decide_eq_true_eq]
  unfold later
  rw [List.getElem_set]
  split
  · rename_i e
    subst e
    simp [dueRow, hj]
  · simp [dues, dueRow]
theorem delay_due {l : List Trp} {n : Nat} (h : l.all (trpB n) = true) : delayOf l (dues l) = (0, 0) := by
  have h1 := near_ok h l.length 0
  have h2 := shape_later l l.length 0
  rw [dues_later] at h1 h2
  rw [delay_ok h2 h1.1 h1.2, all_zero]
theorem delay_later {l : List Trp} {n : Nat} (h : l.all (trpB n) = true) {i k : Nat} (hi : i < l.length) (hk : k < l[i].2.length) : delayOf l (later l i k) = (l[i].2[k].2.2.2, 0) := by
  have h1 := near_ok h i k
  rw [delay_ok (shape_later l i k) h1.1 h1.2, all_late l i k hi hk]
theorem chk_zero {R : List Rte} {l : List Trp} (h : chk R l = 0) : l.length ≤ 4 ∧ l.all lenB = true ∧ l.all (trpB R.length) = true := by
  unfold chk at h
  split at h
  · cases h
  · split at h
    · cases h
    · split at h
      · cases h
      · rename_i h1 h2 h3
        exact ⟨by omega, by simpa using h2, by simpa using h3⟩
end Go.Proofs.Ytaedelcbioiogaa
