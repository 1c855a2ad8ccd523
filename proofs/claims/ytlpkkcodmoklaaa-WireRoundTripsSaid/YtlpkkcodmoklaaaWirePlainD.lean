/- Plain laws of the byte encoding: the beginning of an encoding is truncated. -/
import Derived.Test.YtlpkkcodmoklaaaWirePlainC
namespace Go.Proofs.Ytlpkkcodmoklaaa.Wire
theorem takeU_cutp (p : List UInt8) (n j : Nat) (h : n < 18446744073709551616) (hj : j < (enc n).length) : takeU (p ++ (enc n).take j) (p.length : Int) = (0, 0, 5) := by
  have hs := enc_cut 9 0 n j rfl (by rw [cap9]; exact h) (by omega) hj
  unfold takeU
  rw [if_neg (by simp; omega)]
  have e : (p ++ (enc n).take j).drop ((p.length : Int)).toNat = (encF 9 n).take j := by simp [enc]
  rw [e, hs, if_neg (by decide)]
  rfl
theorem takeI_cutp (p : List UInt8) (n : Int) (j : Nat) (h : -9223372036854775808 ≤ n ∧ n ≤ 9223372036854775807) (hj : j < (encI n).length) : takeI (p ++ (encI n).take j) (p.length : Int) = (0, 0, 5) := by
  unfold takeI encI
  rw [takeU_cutp p (zig n) j (zig_lt n h) hj]
  rfl
theorem takeI_cut (n : Int) (j : Nat) (h : -9223372036854775808 ≤ n ∧ n ≤ 9223372036854775807) (hj : j < (encI n).length) : takeI ((encI n).take j) 0 = (0, 0, 5) := by
  have := takeI_cutp [] n j h hj
  simpa using this
/-- A length is there, and what it counts is not all there. -/
theorem takeC_short (q : List UInt8) (n : Nat) (most : Int) (h : n < 9223372036854775808) (hm : (n : Int) ≤ most) (hq : q.length < n) : takeC (enc n ++ q) 0 most = (0, 0, 5) := by
  have := takeU_enc [] q n (by omega)
  simp only [List.nil_append, List.length_nil] at this
  have e : (((0 : Nat) : Int)) = 0 := rfl
  rw [e] at this
  rw [takeC_eq _ _ _ this, if_neg (by simp), if_neg (by omega), if_pos (by simp; omega)]
theorem takeC_cut (n j : Nat) (most : Int) (h : n < 18446744073709551616) (hj : j < (enc n).length) : takeC ((enc n).take j) 0 most = (0, 0, 5) := by
  rw [takeC_eq _ _ _ (takeU_cut n j h hj), if_pos (by decide)]
theorem take_app_cases (a b : List UInt8) (j : Nat) (hj : j < (a ++ b).length) : (j < a.length ∧ (a ++ b).take j = a.take j) ∨ (j - a.length < b.length ∧ (a ++ b).take j = a ++ b.take (j - a.length)) := by
  rw [List.length_append] at hj
  rcases Nat.lt_or_ge j a.length with h | h
  · exact Or.inl ⟨h, by rw [List.take_append_of_le_length (by omega)]⟩
  · refine Or.inr ⟨by omega, ?_⟩
    rw [List.take_append, List.take_of_length_le h]
theorem takeT_cut (t : List UInt8) (j : Nat) (ht : t.length ≤ 400) (hj : j < (encT t).length) : (takeT ((encT t).take j) 0 400).2.2 = 5 := by
  have key : (takeC ((encT t).take j) 0 400) = (0, 0, 5) := by
    rcases take_app_cases (enc t.length) t j hj with ⟨h1, h2⟩ | ⟨h1, h2⟩
    · unfold encT
      rw [h2]
      exact takeC_cut _ _ _ (by omega) h1
    · unfold encT
      rw [h2]
      exact takeC_short _ _ _ (by omega) (by omega) (by rw [List.length_take]; omega)
  unfold takeT
  rw [key]
  rfl
theorem takeIs_cut : ∀ (L : List Int) (p : List UInt8) (acc : List Int) (j : Nat), (∀ n ∈ L, -9223372036854775808 ≤ n ∧ n ≤ 9223372036854775807) → j < (encIs L).length →
    takeIs (p ++ (encIs L).take j) L.length acc (p.length : Int) = ([], 0, 5)
  | [], _, _, j, _, hj => by simp [encIs] at hj
  | n :: L, p, acc, j, h, hj => by
    have hn := h n (by simp)
    rcases take_app_cases (encI n) (encIs L) j hj with ⟨h1, h2⟩ | ⟨h1, h2⟩
    · have e : (encIs (n :: L)).take j = (encI n).take j := h2
      rw [e, List.length_cons, takeIs, takeI_cutp p n j hn h1, if_neg (by decide)]
    · have e : (encIs (n :: L)).take j = encI n ++ (encIs L).take (j - (encI n).length) := h2
      have h3 := takeI_enc p ((encIs L).take (j - (encI n).length)) n hn
      have h4 := takeIs_cut L (p ++ encI n) (acc ++ [n]) (j - (encI n).length) (fun m hm => h m (by simp [hm])) h1
      have e3 : ((p.length : Int) + (encI n).length) = (((p ++ encI n).length : Nat) : Int) := by simp
      rw [e, ← List.append_assoc, List.length_cons, takeIs, h3, if_pos rfl]
      simp only
      rw [e3, h4]
theorem takeL_cut (L : List Int) (j : Nat) (hL : L.length ≤ 400) (h : ∀ n ∈ L, -9223372036854775808 ≤ n ∧ n ≤ 9223372036854775807) (hj : j < (encL L).length) : (takeL ((encL L).take j) 0 400).2.2 = 5 := by
  rcases take_app_cases (enc L.length) (encIs L) j hj with ⟨h1, h2⟩ | ⟨h1, h2⟩
  · have key : takeC ((encL L).take j) 0 400 = (0, 0, 5) := by
      unfold encL
      rw [h2]
      exact takeC_cut _ _ _ (by omega) h1
    unfold takeL
    rw [key]
    rfl
  · rcases Nat.lt_or_ge (j - (enc L.length).length) L.length with hs | hs
    · have key : takeC ((encL L).take j) 0 400 = (0, 0, 5) := by
        unfold encL
        rw [h2]
        exact takeC_short _ _ _ (by omega) (by omega) (by rw [List.length_take]; omega)
      unfold takeL
      rw [key]
      rfl
    · have key := takeC_enc [] ((encIs L).take (j - (enc L.length).length)) L.length 400 (by omega) (by omega) (by rw [List.length_take]; omega)
      have hk : takeC ((encL L).take j) 0 400 = (L.length, ((enc L.length).length : Int), 0) := by
        unfold encL
        rw [h2]
        simpa using key
      have h4 := takeIs_cut L (enc L.length) [] (j - (enc L.length).length) h h1
      unfold takeL
      rw [hk, if_pos rfl]
      unfold encL
      rw [h2]
      simp only
      rw [h4]
end Go.Proofs.Ytlpkkcodmoklaaa.Wire
