/- More plain laws of the byte encoding: lengths, texts and lists. -/
import Derived.Test.YtlpkkcodmoklaaaWirePlain
namespace Go.Proofs.Ytlpkkcodmoklaaa.Wire
theorem takeU_lt (l : List UInt8) (at' : Int) : (takeU l at').1 < 18446744073709551616 := by
  rcases takeU_err l at' with h | h
  · exact (takeU_exact h).2.2.2.2.1
  · rw [h.1]; omega
theorem takeC_eq (l : List UInt8) (at' most : Int) {u : Nat} {nx er : Int} (h : takeU l at' = (u, nx, er)) :
    takeC l at' most = if er ≠ 0 then (0, 0, er) else if most < 0 ∨ most < u then (0, 0, 2) else if (l.length : Int) - nx < u then (0, 0, 5) else (u, nx, 0) := by
  unfold takeC
  rw [h]
theorem takeC_ok {l : List UInt8} {at' most : Int} (h : (takeC l at' most).2.2 = 0) :
    (takeU l at').2.2 = 0 ∧ (takeC l at' most).1 = (takeU l at').1 ∧ (takeC l at' most).2.1 = (takeU l at').2.1 ∧ ((takeU l at').1 : Int) ≤ most ∧ (takeU l at').2.1 + (takeU l at').1 ≤ l.length := by
  obtain ⟨u, nx, er, ht⟩ : ∃ u nx er, takeU l at' = (u, nx, er) := ⟨_, _, _, rfl⟩
  rw [takeC_eq l at' most ht] at h ⊢
  rw [ht]
  split at h
  · rename_i h1
    exact absurd h h1
  · rename_i h1
    rw [if_neg h1]
    split at h
    · simp at h
    · rename_i h2
      rw [if_neg h2]
      split at h
      · simp at h
      · rename_i h3
        rw [if_neg h3]
        exact ⟨by show er = 0; omega, rfl, rfl, by show (u : Int) ≤ most; omega, by show nx + (u : Int) ≤ _; omega⟩
/-- What a length that was taken is. -/
theorem takeC_bd {l : List UInt8} {at' most : Int} (h : (takeC l at' most).2.2 = 0) :
    0 ≤ at' ∧ at' < (takeC l at' most).2.1 ∧ (takeC l at' most).2.1 + (takeC l at' most).1 ≤ l.length ∧ ((takeC l at' most).1 : Int) ≤ most := by
  obtain ⟨h1, h2, h3, h4, h5⟩ := takeC_ok h
  have h6 := takeU_exact h1
  rw [h2, h3]
  exact ⟨h6.1, h6.2.1, h5, h4⟩
theorem takeI_bd (l : List UInt8) (at' : Int) : -9223372036854775808 ≤ (takeI l at').1 ∧ (takeI l at').1 ≤ 9223372036854775807 := by
  unfold takeI
  split
  · exact zag_bd _ (takeU_lt l at')
  · simp
theorem takeI_ok {l : List UInt8} {at' : Int} (h : (takeI l at').2.2 = 0) : (takeU l at').2.2 = 0 ∧ (takeI l at').1 = zag (takeU l at').1 ∧ (takeI l at').2.1 = (takeU l at').2.1 := by
  unfold takeI at h ⊢
  split at h
  · rename_i h1
    rw [if_pos h1]
    exact ⟨h1, rfl, rfl⟩
  · rename_i h1
    exact absurd h h1
theorem takeI_next {l : List UInt8} {at' : Int} (h : (takeI l at').2.2 = 0) : 0 ≤ (takeI l at').2.1 ∧ (takeI l at').2.1 ≤ l.length := by
  obtain ⟨h1, _, h3⟩ := takeI_ok h
  have := takeU_exact h1
  omega
theorem takeIs_err (l : List UInt8) : ∀ (k : Nat) (acc : List Int) (at' : Int), (takeIs l k acc at').2.2 = 0 ∨ ((takeIs l k acc at').1 = [] ∧ (takeIs l k acc at').2.1 = 0)
  | 0, _, _ => Or.inl rfl
  | k + 1, acc, at' => by
    rw [takeIs]
    split
    · exact takeIs_err l k _ _
    · exact Or.inr ⟨rfl, rfl⟩
end Go.Proofs.Ytlpkkcodmoklaaa.Wire
