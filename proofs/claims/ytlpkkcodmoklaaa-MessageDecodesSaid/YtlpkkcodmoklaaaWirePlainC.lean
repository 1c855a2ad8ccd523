/- Plain laws of the byte encoding: what is taken is an encoding; an encoding is taken; its beginning is not. -/
import Derived.Test.YtlpkkcodmoklaaaWirePlainB
namespace Go.Proofs.Ytlpkkcodmoklaaa.Wire
/-- A part of a text reads as c. -/
def Part (l : List UInt8) (at' to : Int) (c : List UInt8) : Prop := 0 ≤ at' ∧ at' ≤ to ∧ to ≤ l.length ∧ (l.take to.toNat).drop at'.toNat = c
theorem part_join {l c d : List UInt8} {x y z : Int} (h : Part l x y c) (k : Part l y z d) : Part l x z (c ++ d) := by
  obtain ⟨h1, h2, h3, h4⟩ := h
  obtain ⟨k1, k2, k3, k4⟩ := k
  refine ⟨h1, by omega, k3, ?_⟩
  rw [← h4, ← k4]
  obtain ⟨a, rfl⟩ := Int.eq_ofNat_of_zero_le h1
  obtain ⟨b, rfl⟩ := Int.eq_ofNat_of_zero_le k1
  obtain ⟨c', rfl⟩ := Int.eq_ofNat_of_zero_le (show 0 ≤ z by omega)
  simp only [Int.toNat_natCast]
  have e : l.take b = (l.take c').take b := by rw [List.take_take]; congr 1; omega
  rw [e]
  generalize l.take c' = m
  have hab : a ≤ b := by omega
  have : m.drop a = (m.take b ++ m.drop b).drop a := by rw [List.take_append_drop]
  rw [this]
  rcases Nat.lt_or_ge b m.length with hb | hb
  · rw [List.drop_append_of_le_length (by rw [List.length_take]; omega)]
  · have e3 : m.drop b = [] := List.drop_of_length_le hb
    rw [e3, List.append_nil, List.append_nil]
theorem takeU_part {l : List UInt8} {at' : Int} (h : (takeU l at').2.2 = 0) : Part l at' (takeU l at').2.1 (enc (takeU l at').1) := by
  have := takeU_exact h
  exact ⟨this.1, by omega, this.2.2.1, this.2.2.2.2.2⟩
theorem takeI_part {l : List UInt8} {at' : Int} (h : (takeI l at').2.2 = 0) : Part l at' (takeI l at').2.1 (encI (takeI l at').1) := by
  obtain ⟨h1, h2, h3⟩ := takeI_ok h
  rw [h2, h3, encI, zig_zag]
  exact takeU_part h1
theorem takeB_part {l : List UInt8} {at' : Int} (h : (takeB l at').2.2 = 0) : Part l at' (takeB l at').2.1 (encB (takeB l at').1) := by
  unfold takeB at h ⊢
  split at h
  · simp at h
  · rename_i h1
    rw [if_neg h1]
    split at h
    · simp at h
    · rename_i h2
      rw [if_neg h2]
      split at h
      · simp at h
      · rename_i h3
        rw [if_neg h3]
        obtain ⟨a, rfl⟩ := Int.eq_ofNat_of_zero_le (show 0 ≤ at' by omega)
        have hal : a < l.length := by omega
        refine ⟨by omega, by show (a : Int) ≤ a + 1; omega, by show (a : Int) + 1 ≤ _; omega, ?_⟩
        show (l.take ((a : Int) + 1).toNat).drop (a : Int).toNat = _
        rw [show ((a : Int) + 1).toNat = a + 1 by omega, Int.toNat_natCast] at *
        rw [List.take_succ_eq_append_getElem hal, List.drop_append_of_le_length (by rw [List.length_take]; omega), List.drop_of_length_le (by rw [List.length_take]; omega), List.nil_append]
        have hg : l.getD a 0 = l[a] := by simp [hal]
        rw [hg] at h3 ⊢
        generalize l[a] = c at h3
        unfold encB
        by_cases h4 : c.toNat = 1
        · have : c = 1 := UInt8.toNat_inj.1 h4
          subst this
          rfl
        · have : c = 0 := UInt8.toNat_inj.1 (by show c.toNat = 0; omega)
          subst this
          rfl
theorem takeC_part {l : List UInt8} {at' most : Int} (h : (takeC l at' most).2.2 = 0) : Part l at' (takeC l at' most).2.1 (enc (takeC l at' most).1) := by
  obtain ⟨h1, h2, h3, _, _⟩ := takeC_ok h
  rw [h2, h3]
  exact takeU_part h1
theorem takeT_part {l : List UInt8} {at' most : Int} (h : (takeT l at' most).2.2 = 0) : Part l at' (takeT l at' most).2.1 (encT (takeT l at' most).1) ∧ ((takeT l at' most).1.length : Int) ≤ most := by
  by_cases he : (takeC l at' most).2.2 = 0
  · have hb := takeC_bd he
    have hp := takeC_part he
    have hl : ((l.drop (takeC l at' most).2.1.toNat).take (takeC l at' most).1).length = (takeC l at' most).1 := by rw [List.length_take, List.length_drop]; omega
    have ht : takeT l at' most = ((l.drop (takeC l at' most).2.1.toNat).take (takeC l at' most).1, (takeC l at' most).2.1 + (takeC l at' most).1, 0) := by unfold takeT; rw [if_pos he]
    rw [ht]
    simp only
    refine ⟨?_, by rw [hl]; exact hb.2.2.2⟩
    unfold encT
    rw [hl]
    refine part_join hp ⟨by omega, by omega, by omega, ?_⟩
    rw [List.drop_take]
    congr 1
    omega
  · have ht : takeT l at' most = ([], 0, (takeC l at' most).2.2) := by unfold takeT; rw [if_neg he]
    rw [ht] at h
    exact absurd h he
theorem takeIs_part {l : List UInt8} : ∀ (k : Nat) (acc : List Int) (p : Int), 0 ≤ p → p ≤ l.length → (takeIs l k acc p).2.2 = 0 →
    ∃ M : List Int, (takeIs l k acc p).1 = acc ++ M ∧ M.length = k ∧ Part l p (takeIs l k acc p).2.1 (encIs M) ∧ ∀ n ∈ M, -9223372036854775808 ≤ n ∧ n ≤ 9223372036854775807
  | 0, acc, p, h0, h1, _ => ⟨[], by simp [takeIs], rfl, ⟨h0, Int.le_refl _, h1, by simp [takeIs, encIs]⟩, by simp⟩
  | k + 1, acc, p, h0, h1, h => by
    rw [takeIs] at h ⊢
    split at h
    · rename_i he
      rw [if_pos he]
      have hn := takeI_next he
      obtain ⟨M, m1, m2, m3, m4⟩ := takeIs_part k _ _ hn.1 hn.2 h
      refine ⟨(takeI l p).1 :: M, by rw [m1]; simp, by simp [m2], part_join (takeI_part he) m3, ?_⟩
      intro n hn
      rcases List.mem_cons.1 hn with rfl | hn
      · exact takeI_bd l p
      · exact m4 n hn
    · rename_i he
      exact absurd h he
theorem takeL_part {l : List UInt8} {at' most : Int} (h : (takeL l at' most).2.2 = 0) : Part l at' (takeL l at' most).2.1 (encL (takeL l at' most).1) ∧ ((takeL l at' most).1.length : Int) ≤ most ∧ ∀ n ∈ (takeL l at' most).1, -9223372036854775808 ≤ n ∧ n ≤ 9223372036854775807 := by
  by_cases he : (takeC l at' most).2.2 = 0
  · have hb := takeC_bd he
    have hp := takeC_part he
    have ht : takeL l at' most = takeIs l (takeC l at' most).1 [] (takeC l at' most).2.1 := by unfold takeL; rw [if_pos he]
    rw [ht] at h ⊢
    obtain ⟨M, m1, m2, m3, m4⟩ := takeIs_part (takeC l at' most).1 [] (takeC l at' most).2.1 (by omega) (by omega) h
    rw [List.nil_append] at m1
    rw [m1]
    refine ⟨?_, by rw [m2]; exact hb.2.2.2, m4⟩
    unfold encL
    rw [m2]
    exact part_join hp m3
  · have ht : takeL l at' most = ([], 0, (takeC l at' most).2.2) := by unfold takeL; rw [if_neg he]
    rw [ht] at h
    exact absurd h he
theorem takeT_len (l : List UInt8) (at' most : Int) : (takeT l at' most).1.length ≤ l.length := by
  unfold takeT
  split
  · rw [List.length_take, List.length_drop]; omega
  · simp
theorem takeIs_len (l : List UInt8) : ∀ (k : Nat) (acc : List Int) (p : Int), (takeIs l k acc p).1.length ≤ acc.length + k
  | 0, acc, p => by simp [takeIs]
  | k + 1, acc, p => by
    rw [takeIs]
    split
    · have := takeIs_len l k (acc ++ [(takeI l p).1]) (takeI l p).2.1
      simp at this
      omega
    · simp
theorem takeL_len (l : List UInt8) (at' most : Int) : (takeL l at' most).1.length ≤ l.length := by
  unfold takeL
  split
  · rename_i h
    have h1 := takeIs_len l (takeC l at' most).1 [] (takeC l at' most).2.1
    have h2 := takeC_bd h
    simp at h1
    omega
  · simp
theorem takeIs_i64 (l : List UInt8) : ∀ (k : Nat) (acc : List Int) (p : Int), (∀ n ∈ acc, -9223372036854775808 ≤ n ∧ n ≤ 9223372036854775807) → ∀ n ∈ (takeIs l k acc p).1, -9223372036854775808 ≤ n ∧ n ≤ 9223372036854775807
  | 0, acc, p, h => by simpa [takeIs] using h
  | k + 1, acc, p, h => by
    rw [takeIs]
    split
    · refine takeIs_i64 l k _ _ ?_
      intro n hn
      rcases List.mem_append.1 hn with hn | hn
      · exact h n hn
      · have : n = (takeI l p).1 := by simpa using hn
        rw [this]
        exact takeI_bd l p
    · simp
theorem takeL_i64 (l : List UInt8) (at' most : Int) : ∀ n ∈ (takeL l at' most).1, -9223372036854775808 ≤ n ∧ n ≤ 9223372036854775807 := by
  unfold takeL
  split
  · exact takeIs_i64 l _ _ _ (by simp)
  · simp

/-! An encoding between other texts is taken. -/
theorem takeI_enc (p q : List UInt8) (n : Int) (h : -9223372036854775808 ≤ n ∧ n ≤ 9223372036854775807) : takeI (p ++ encI n ++ q) (p.length : Int) = (n, (p.length : Int) + (encI n).length, 0) := by
  unfold takeI encI
  rw [takeU_enc p q (zig n) (zig_lt n h)]
  simp [zag_zig]
theorem takeB_enc (p q : List UInt8) (b : Bool) : takeB (p ++ encB b ++ q) (p.length : Int) = (b, (p.length : Int) + 1, 0) := by
  have hl : (encB b).length = 1 := by cases b <;> rfl
  unfold takeB
  rw [if_neg (by simp; omega), if_neg (by simp [hl]; omega)]
  have hg : (p ++ encB b ++ q).getD ((p.length : Int)).toNat 0 = if b then 1 else 0 := by
    cases b <;> simp [encB]
  rw [hg]
  cases b <;> simp
theorem takeC_enc (p q : List UInt8) (n : Nat) (most : Int) (h : n < 9223372036854775808) (hm : (n : Int) ≤ most) (hq : n ≤ q.length) : takeC (p ++ enc n ++ q) (p.length : Int) most = (n, (p.length : Int) + (enc n).length, 0) := by
  have := takeU_enc p q n (by omega)
  rw [takeC_eq _ _ _ this, if_neg (by simp), if_neg (by omega), if_neg (by simp; omega)]
theorem takeT_enc (p q t : List UInt8) (h : t.length < 9223372036854775808) : takeT (p ++ encT t ++ q) (p.length : Int) (t.length : Int) = (t, (p.length : Int) + (encT t).length, 0) := by
  have := takeC_enc p (t ++ q) t.length t.length h (by omega) (by simp)
  unfold encT takeT
  rw [show p ++ (enc t.length ++ t) ++ q = p ++ enc t.length ++ (t ++ q) by simp, this, if_pos rfl]
  refine Prod.ext ?_ (Prod.ext ?_ rfl)
  · show ((p ++ enc t.length ++ (t ++ q)).drop ((p.length : Int) + (enc t.length).length).toNat).take t.length = t
    rw [show ((p.length : Int) + (enc t.length).length).toNat = (p ++ enc t.length).length by simp; omega, List.drop_left, List.take_left]
  · show (p.length : Int) + (enc t.length).length + t.length = (p.length : Int) + ((enc t.length ++ t).length : Nat)
    simp
    omega
theorem takeIs_enc (q : List UInt8) : ∀ (L : List Int) (p : List UInt8) (acc : List Int), (∀ n ∈ L, -9223372036854775808 ≤ n ∧ n ≤ 9223372036854775807) →
    takeIs (p ++ encIs L ++ q) L.length acc (p.length : Int) = (acc ++ L, (p.length : Int) + (encIs L).length, 0)
  | [], p, acc, _ => by simp [takeIs, encIs]
  | n :: L, p, acc, h => by
    have h1 := takeI_enc p (encIs L ++ q) n (h n (by simp))
    have e : p ++ encIs (n :: L) ++ q = p ++ encI n ++ (encIs L ++ q) := by simp [encIs]
    rw [List.length_cons, takeIs, e, h1, if_pos rfl]
    have h2 := takeIs_enc q L (p ++ encI n) (acc ++ [n]) (fun m hm => h m (by simp [hm]))
    have e2 : p ++ encI n ++ (encIs L ++ q) = (p ++ encI n) ++ encIs L ++ q := by simp
    have e3 : ((p.length : Int) + (encI n).length) = (((p ++ encI n).length : Nat) : Int) := by simp
    rw [e2]
    simp only
    rw [e3, h2]
    refine Prod.ext (by simp) (Prod.ext ?_ rfl)
    show (((p ++ encI n).length : Nat) : Int) + (encIs L).length = (p.length : Int) + ((encI n ++ encIs L).length : Nat)
    simp
    omega
theorem takeL_enc (p q : List UInt8) (L : List Int) (h : ∀ n ∈ L, -9223372036854775808 ≤ n ∧ n ≤ 9223372036854775807) (hl : L.length < 9223372036854775808) : takeL (p ++ encL L ++ q) (p.length : Int) (L.length : Int) = (L, (p.length : Int) + (encL L).length, 0) := by
  have hge : L.length ≤ (encIs L).length := by
    clear hl
    induction L with
    | nil => simp
    | cons n L ih =>
      have h1 := encI_length n (h n (by simp))
      have h2 := ih (fun m hm => h m (by simp [hm]))
      simp only [encIs, List.length_append, List.length_cons]
      omega
  have hc := takeC_enc p (encIs L ++ q) L.length L.length hl (by omega) (by simp; omega)
  unfold encL takeL
  rw [show p ++ (enc L.length ++ encIs L) ++ q = p ++ enc L.length ++ (encIs L ++ q) by simp, hc, if_pos rfl]
  have hi := takeIs_enc q L (p ++ enc L.length) [] h
  have e2 : p ++ enc L.length ++ (encIs L ++ q) = (p ++ enc L.length) ++ encIs L ++ q := by simp
  have e3 : ((p.length : Int) + (enc L.length).length) = (((p ++ enc L.length).length : Nat) : Int) := by simp
  rw [e2]
  simp only
  rw [e3, hi]
  refine Prod.ext (by simp) (Prod.ext ?_ rfl)
  show (((p ++ enc L.length).length : Nat) : Int) + (encIs L).length = (p.length : Int) + ((enc L.length ++ encIs L).length : Nat)
  simp
  omega
end Go.Proofs.Ytlpkkcodmoklaaa.Wire
