/- Plain laws of the byte encoding of numbers, texts and lists: no program in sight. -/
namespace Go.Proofs.Ytlpkkcodmoklaaa.Wire

def encF : Nat → Nat → List UInt8
  | 0, n => [UInt8.ofNat n]
  | k + 1, n => if n < 128 then [UInt8.ofNat n] else UInt8.ofNat (128 + n % 128) :: encF k (n / 128)
def enc (n : Nat) : List UInt8 := encF 9 n
def val : List UInt8 → Nat
  | [] => 0
  | c :: l => c.toNat % 128 + 128 * val l
/-- 0: it is there, with so many bytes; 4: syntax; 5: truncated. -/
def scan : Nat → List UInt8 → Nat × Nat
  | _, [] => (5, 0)
  | i, c :: l => if (c.toNat = 0 ∧ 0 < i) ∨ (i = 9 ∧ c.toNat ≠ 1) then (4, 0) else if c.toNat < 128 then (0, i + 1) else scan (i + 1) l

theorem ofNat_toNat {n : Nat} (h : n < 256) : (UInt8.ofNat n).toNat = n := by
  rw [UInt8.toNat_ofNat']; exact Nat.mod_eq_of_lt h
theorem u8_eq {c : UInt8} {n : Nat} (h : c.toNat = n) : UInt8.ofNat n = c := by
  rw [← h]; simp
theorem scan_nil (i : Nat) : scan i [] = (5, 0) := by rw [scan]
theorem scan_stop {i : Nat} {c : UInt8} {l : List UInt8} (h : (c.toNat = 0 ∧ 0 < i) ∨ (i = 9 ∧ c.toNat ≠ 1)) : scan i (c :: l) = (4, 0) := by
  rw [scan, if_pos h]
theorem scan_last {i : Nat} {c : UInt8} {l : List UInt8} (h : ¬ ((c.toNat = 0 ∧ 0 < i) ∨ (i = 9 ∧ c.toNat ≠ 1))) (hc : c.toNat < 128) : scan i (c :: l) = (0, i + 1) := by
  rw [scan, if_neg h, if_pos hc]
theorem scan_more {i : Nat} {c : UInt8} {l : List UInt8} (h : ¬ ((c.toNat = 0 ∧ 0 < i) ∨ (i = 9 ∧ c.toNat ≠ 1))) (hc : ¬ c.toNat < 128) : scan i (c :: l) = scan (i + 1) l := by
  rw [scan, if_neg h, if_neg hc]

/-- The greatest number that k more groups can bear. -/
def cap : Nat → Nat
  | 0 => 2
  | k + 1 => 128 * cap k
theorem cap9 : cap 9 = 18446744073709551616 := rfl
theorem enc_scan (rest : List UInt8) : ∀ (k i n : Nat), k + i = 9 → n < cap k → (0 < i → 0 < n) →
    scan i (encF k n ++ rest) = (0, i + (encF k n).length) ∧ val (encF k n) = n ∧ 1 ≤ (encF k n).length ∧ (encF k n).length ≤ k + 1
  | 0, i, n, hi, hn, h0 => by
    have hn2 : n < 2 := hn
    obtain rfl : n = 1 := by have := h0 (by omega); omega
    obtain rfl : i = 9 := by omega
    refine ⟨?_, by simp [encF, val], by simp [encF], by simp [encF]⟩
    simp only [encF, List.cons_append, List.nil_append]
    exact scan_last (by simp) (by decide)
  | k + 1, i, n, hi, hn, h0 => by
    by_cases hlt : n < 128
    · simp only [encF, if_pos hlt]
      have ht : (UInt8.ofNat n).toNat = n := ofNat_toNat (by omega)
      refine ⟨?_, by simp [val]; omega, by simp, by simp⟩
      exact scan_last (by rw [ht]; omega) (by rw [ht]; exact hlt)
    · simp only [encF, if_neg hlt]
      have ht : (UInt8.ofNat (128 + n % 128)).toNat = 128 + n % 128 := ofNat_toNat (by omega)
      have hn' : n / 128 < cap k := by
        have : n < 128 * cap k := hn
        omega
      obtain ⟨h1, h2, h3, h4⟩ := enc_scan rest k (i + 1) (n / 128) (by omega) hn' (by omega)
      refine ⟨?_, ?_, by simp, by simp; omega⟩
      · rw [List.cons_append, scan_more (by rw [ht]; omega) (by rw [ht]; omega), h1, List.length_cons]
        congr 1
        omega
      · rw [val, h2, ht]
        omega
theorem enc_cut : ∀ (k i n j : Nat), k + i = 9 → n < cap k → (0 < i → 0 < n) → j < (encF k n).length → scan i ((encF k n).take j) = (5, 0)
  | _, _, _, 0, _, _, _, _ => by rw [List.take_zero, scan]
  | 0, i, n, j + 1, _, _, _, hj => by simp [encF] at hj
  | k + 1, i, n, j + 1, hi, hn, h0, hj => by
    by_cases hlt : n < 128
    · simp [encF, hlt] at hj
    · simp only [encF, if_neg hlt] at hj ⊢
      have ht : (UInt8.ofNat (128 + n % 128)).toNat = 128 + n % 128 := ofNat_toNat (by omega)
      have hn' : n / 128 < cap k := by
        have : n < 128 * cap k := hn
        omega
      rw [List.take_succ_cons, scan_more (by rw [ht]; omega) (by rw [ht]; omega)]
      exact enc_cut k (i + 1) (n / 128) j (by omega) hn' (by omega) (by simpa using hj)
/-- What is read is an encoding. -/
theorem scan_exact : ∀ (l : List UInt8) (k i e m : Nat), k + i = 9 → scan i l = (e, m) →
    (e = 0 ∧ i < m ∧ m ≤ 10 ∧ m - i ≤ l.length ∧ encF k (val (l.take (m - i))) = l.take (m - i) ∧ val (l.take (m - i)) < cap k ∧ (0 < i → 0 < val (l.take (m - i)))) ∨ (e = 4 ∧ m = 0) ∨ (e = 5 ∧ m = 0)
  | [], k, i, e, m, hi, h => by
    rw [scan_nil] at h
    simp at h
    exact Or.inr (Or.inr ⟨h.1.symm, h.2.symm⟩)
  | c :: l, k, i, e, m, hi, h => by
    by_cases hs : (c.toNat = 0 ∧ 0 < i) ∨ (i = 9 ∧ c.toNat ≠ 1)
    · rw [scan_stop hs] at h
      simp at h
      exact Or.inr (Or.inl ⟨h.1.symm, h.2.symm⟩)
    · by_cases hc : c.toNat < 128
      · rw [scan_last hs hc] at h
        simp at h
        obtain ⟨rfl, rfl⟩ := h
        refine Or.inl ⟨rfl, by omega, by omega, by simp, ?_, ?_, ?_⟩
        · rw [show i + 1 - i = 1 by omega]
          have hv : val (List.take 1 (c :: l)) = c.toNat := by simp [val]; omega
          rw [hv]
          cases k with
          | zero => simp [encF, u8_eq rfl]
          | succ k => simp [encF, hc, u8_eq rfl]
        · rw [show i + 1 - i = 1 by omega]
          have hv : val (List.take 1 (c :: l)) = c.toNat := by simp [val]; omega
          rw [hv]
          cases k with
          | zero => show c.toNat < 2; omega
          | succ k =>
            have : ∀ k, 1 ≤ cap k := by
              intro k
              induction k with
              | zero => decide
              | succ k ih => show 1 ≤ 128 * cap k; omega
            have := this k
            show c.toNat < 128 * cap k
            omega
        · rw [show i + 1 - i = 1 by omega]
          have hv : val (List.take 1 (c :: l)) = c.toNat := by simp [val]; omega
          rw [hv]
          omega
      · rw [scan_more hs hc] at h
        cases k with
        | zero =>
          exfalso
          omega
        | succ k =>
          rcases scan_exact l k (i + 1) e m (by omega) h with ⟨h0, h1, h2, h3, h4, h5, h6⟩ | h | h
          · refine Or.inl ⟨h0, by omega, h2, by simp; omega, ?_, ?_, ?_⟩
            · obtain ⟨q, hq⟩ : ∃ q, m - i = q + 1 := ⟨m - (i + 1), by omega⟩
              have hq' : m - (i + 1) = q := by omega
              rw [hq'] at h4 h6
              rw [hq, List.take_succ_cons, val]
              have h7 := h6 (by omega)
              have hb := c.toNat_lt
              rw [encF, if_neg (by omega), show (c.toNat % 128 + 128 * val (List.take q l)) / 128 = val (List.take q l) by omega, h4]
              congr 1
              apply u8_eq
              omega
            · obtain ⟨q, hq⟩ : ∃ q, m - i = q + 1 := ⟨m - (i + 1), by omega⟩
              have hq' : m - (i + 1) = q := by omega
              rw [hq'] at h5
              rw [hq, List.take_succ_cons, val]
              show _ < 128 * cap k
              omega
            · intro _
              obtain ⟨q, hq⟩ : ∃ q, m - i = q + 1 := ⟨m - (i + 1), by omega⟩
              have hq' : m - (i + 1) = q := by omega
              rw [hq'] at h6
              rw [hq, List.take_succ_cons, val]
              have := h6 (by omega)
              omega
          · exact Or.inr (Or.inl h)
          · exact Or.inr (Or.inr h)
theorem enc_mono : ∀ (k a b : Nat), a ≤ b → (encF k a).length ≤ (encF k b).length
  | 0, _, _, _ => by simp [encF]
  | k + 1, a, b, h => by
    by_cases ha : a < 128
    · by_cases hb : b < 128
      · simp [encF, ha, hb]
      · simp [encF, ha, hb]
    · have hb : ¬ b < 128 := by omega
      simp only [encF, if_neg ha, if_neg hb, List.length_cons]
      have := enc_mono k (a / 128) (b / 128) (by omega)
      omega

theorem encF_small (k n : Nat) (h : n < 128) : encF k n = [UInt8.ofNat n] := by
  cases k with
  | zero => rfl
  | succ k => rw [encF, if_pos h]
theorem encF_big (k n : Nat) (h : ¬ n < 128) : encF (k + 1) n = UInt8.ofNat (128 + n % 128) :: encF k (n / 128) := by
  rw [encF, if_neg h]
theorem cap0 : cap 0 = 2 := rfl
theorem cap_succ (k : Nat) : cap (k + 1) = 128 * cap k := rfl
theorem enc_length (n : Nat) (h : n < 18446744073709551616) : 1 ≤ (enc n).length ∧ (enc n).length ≤ 10 := by
  have := enc_scan [] 9 0 n rfl (by rw [cap9]; exact h) (by omega)
  exact ⟨this.2.2.1, this.2.2.2⟩
/-- Numbers with a sign. -/
def zig (n : Int) : Nat := if 0 ≤ n then 2 * n.toNat else 2 * (-(n + 1)).toNat + 1
def zag (u : Nat) : Int := if u % 2 = 1 then -((u / 2 : Nat) : Int) - 1 else ((u / 2 : Nat) : Int)
theorem zag_zig (n : Int) : zag (zig n) = n := by
  unfold zag zig
  split <;> split <;> omega
theorem zig_zag (u : Nat) : zig (zag u) = u := by
  unfold zag zig
  split <;> split <;> omega
theorem zig_lt (n : Int) (h : -9223372036854775808 ≤ n ∧ n ≤ 9223372036854775807) : zig n < 18446744073709551616 := by
  unfold zig
  split <;> omega
theorem zag_bd (u : Nat) (h : u < 18446744073709551616) : -9223372036854775808 ≤ zag u ∧ zag u ≤ 9223372036854775807 := by
  unfold zag
  split <;> omega
def encI (n : Int) : List UInt8 := enc (zig n)
def encB (b : Bool) : List UInt8 := if b then [1] else [0]
def encT (l : List UInt8) : List UInt8 := enc l.length ++ l
def encIs : List Int → List UInt8
  | [] => []
  | n :: l => encI n ++ encIs l
def encL (l : List Int) : List UInt8 := enc l.length ++ encIs l
theorem encIs_append (a b : List Int) : encIs (a ++ b) = encIs a ++ encIs b := by
  induction a with
  | nil => rfl
  | cons x a ih => rw [List.cons_append, encIs, encIs, ih, List.append_assoc]
theorem encI_length (n : Int) (h : -9223372036854775808 ≤ n ∧ n ≤ 9223372036854775807) : 1 ≤ (encI n).length ∧ (encI n).length ≤ 10 := enc_length _ (zig_lt n h)
theorem encIs_length : ∀ (l : List Int), (∀ n ∈ l, -9223372036854775808 ≤ n ∧ n ≤ 9223372036854775807) → (encIs l).length ≤ 10 * l.length
  | [], _ => by simp [encIs]
  | n :: l, h => by
    have h1 := encI_length n (h n (by simp))
    have h2 := encIs_length l (fun m hm => h m (by simp [hm]))
    simp only [encIs, List.length_append, List.length_cons]
    omega

/-! What is taken from a text at an offset: the value, the offset behind it, the error's number. -/
def takeU (l : List UInt8) (at' : Int) : Nat × Int × Int :=
  if at' < 0 ∨ (l.length : Int) < at' then (0, 0, 1)
  else if (scan 0 (l.drop at'.toNat)).1 = 0 then (val ((l.drop at'.toNat).take (scan 0 (l.drop at'.toNat)).2), at' + (scan 0 (l.drop at'.toNat)).2, 0)
  else (0, 0, (scan 0 (l.drop at'.toNat)).1)
def takeI (l : List UInt8) (at' : Int) : Int × Int × Int :=
  if (takeU l at').2.2 = 0 then (zag (takeU l at').1, (takeU l at').2.1, 0) else (0, 0, (takeU l at').2.2)
def takeB (l : List UInt8) (at' : Int) : Bool × Int × Int :=
  if at' < 0 ∨ (l.length : Int) < at' then (false, 0, 1)
  else if at' = l.length then (false, 0, 5)
  else if 1 < (l.getD at'.toNat 0).toNat then (false, 0, 4)
  else ((l.getD at'.toNat 0).toNat == 1, at' + 1, 0)
def takeC (l : List UInt8) (at' most : Int) : Nat × Int × Int :=
  if (takeU l at').2.2 ≠ 0 then (0, 0, (takeU l at').2.2)
  else if most < 0 ∨ most < (takeU l at').1 then (0, 0, 2)
  else if (l.length : Int) - (takeU l at').2.1 < (takeU l at').1 then (0, 0, 5)
  else ((takeU l at').1, (takeU l at').2.1, 0)
def takeT (l : List UInt8) (at' most : Int) : List UInt8 × Int × Int :=
  if (takeC l at' most).2.2 = 0 then ((l.drop (takeC l at' most).2.1.toNat).take (takeC l at' most).1, (takeC l at' most).2.1 + (takeC l at' most).1, 0) else ([], 0, (takeC l at' most).2.2)
def takeIs (l : List UInt8) : Nat → List Int → Int → List Int × Int × Int
  | 0, acc, at' => (acc, at', 0)
  | k + 1, acc, at' => if (takeI l at').2.2 = 0 then takeIs l k (acc ++ [(takeI l at').1]) (takeI l at').2.1 else ([], 0, (takeI l at').2.2)
def takeL (l : List UInt8) (at' most : Int) : List Int × Int × Int :=
  if (takeC l at' most).2.2 = 0 then takeIs l (takeC l at' most).1 [] (takeC l at' most).2.1 else ([], 0, (takeC l at' most).2.2)

/-- What a number that was taken is. -/
theorem takeU_ok {l : List UInt8} {at' : Int} (h : (takeU l at').2.2 = 0) :
    0 ≤ at' ∧ at' ≤ l.length ∧ scan 0 (l.drop at'.toNat) = (0, (scan 0 (l.drop at'.toNat)).2) ∧ (takeU l at').1 = val ((l.drop at'.toNat).take (scan 0 (l.drop at'.toNat)).2) ∧ (takeU l at').2.1 = at' + (scan 0 (l.drop at'.toNat)).2 := by
  unfold takeU at h ⊢
  split at h
  · simp at h
  · rename_i h1
    rw [if_neg h1]
    split at h
    · rename_i h2
      rw [if_pos h2]
      exact ⟨by omega, by omega, Prod.ext h2 rfl, rfl, rfl⟩
    · rename_i h2
      simp at h
      omega
theorem takeU_exact {l : List UInt8} {at' : Int} (h : (takeU l at').2.2 = 0) :
    0 ≤ at' ∧ at' < (takeU l at').2.1 ∧ (takeU l at').2.1 ≤ l.length ∧ (takeU l at').2.1 ≤ at' + 10 ∧ (takeU l at').1 < 18446744073709551616 ∧
      (l.take (takeU l at').2.1.toNat).drop at'.toNat = enc (takeU l at').1 := by
  obtain ⟨h0, h1, h2, h3, h4⟩ := takeU_ok h
  rw [h3, h4]
  rcases scan_exact (l.drop at'.toNat) 9 0 _ _ rfl h2 with ⟨_, a1, a2, a3, a4, a5, _⟩ | ⟨h, _⟩ | ⟨h, _⟩
  · rw [List.length_drop] at a3
    rw [Nat.sub_zero] at a3 a4 a5
    rw [cap9] at a5
    refine ⟨h0, by omega, by omega, by omega, a5, ?_⟩
    unfold enc
    rw [a4]
    rw [List.drop_take]
    congr 1
    omega
  · cases h
  · cases h
theorem takeU_err (l : List UInt8) (at' : Int) : (takeU l at').2.2 = 0 ∨ ((takeU l at').1 = 0 ∧ (takeU l at').2.1 = 0 ∧ ((takeU l at').2.2 = 1 ∨ (takeU l at').2.2 = 4 ∨ (takeU l at').2.2 = 5)) := by
  unfold takeU
  split
  · exact Or.inr ⟨rfl, rfl, Or.inl rfl⟩
  · split
    · exact Or.inl rfl
    · rename_i h2
      refine Or.inr ⟨rfl, rfl, Or.inr ?_⟩
      rcases scan_exact (l.drop at'.toNat) 9 0 _ _ rfl rfl with ⟨h, _⟩ | ⟨h, _⟩ | ⟨h, _⟩
      · exact absurd h h2
      · exact Or.inl (by rw [h]; rfl)
      · exact Or.inr (by rw [h]; rfl)
/-- An encoding between other texts. -/
theorem takeU_enc (p q : List UInt8) (n : Nat) (h : n < 18446744073709551616) : takeU (p ++ enc n ++ q) (p.length : Int) = (n, (p.length : Int) + (enc n).length, 0) := by
  have hs := enc_scan q 9 0 n rfl (by rw [cap9]; exact h) (by omega)
  have hd : (p ++ enc n ++ q).drop ((p.length : Int)).toNat = enc n ++ q := by simp
  unfold takeU
  rw [if_neg (by simp; omega), hd]
  have e : scan 0 (enc n ++ q) = (0, (enc n).length) := by
    unfold enc
    rw [hs.1]
    simp
  rw [e, if_pos rfl]
  have e2 : (enc n ++ q).take (enc n).length = enc n := by simp
  simp only [e2]
  unfold enc
  rw [hs.2.1]
theorem takeU_cut (n j : Nat) (h : n < 18446744073709551616) (hj : j < (enc n).length) : takeU ((enc n).take j) 0 = (0, 0, 5) := by
  have hs := enc_cut 9 0 n j rfl (by rw [cap9]; exact h) (by omega) hj
  unfold takeU
  rw [if_neg (by omega)]
  have e : ((enc n).take j).drop (0 : Int).toNat = (encF 9 n).take j := by simp [enc]
  rw [e, hs, if_neg (by decide)]
  rfl
theorem val_drop (p : List UInt8) (k : Nat) (h : k < p.length) : val (p.drop k) = p[k].toNat % 128 + 128 * val (p.drop (k + 1)) := by
  rw [List.drop_eq_getElem_cons h, val]
theorem val_drop_le (p : List UInt8) : ∀ k, val (p.drop k) ≤ val p
  | 0 => by simp
  | k + 1 => by
    rcases Nat.lt_or_ge k p.length with h | h
    · have := val_drop p k h
      have := val_drop_le p k
      omega
    · rw [List.drop_of_length_le (by omega)]
      simp [val]
theorem val_take (p : List UInt8) (k : Nat) (h : k < p.length) : val (p.take (k + 1)) = val (p.take k) + p[k].toNat % 128 * 128 ^ k := by
  induction k generalizing p with
  | zero =>
    match p, h with
    | c :: p, _ => simp [val]
  | succ k ih =>
    match p, h with
    | c :: p, h =>
      have hk : k < p.length := by simpa using h
      have := ih p hk
      simp only [List.take_succ_cons, val, List.getElem_cons_succ] at this ⊢
      rw [this, Nat.pow_succ, Nat.mul_add, ← Nat.add_assoc]
      congr 1
      rw [Nat.mul_comm (128 ^ k) 128, ← Nat.mul_assoc, ← Nat.mul_assoc, Nat.mul_comm 128]
theorem val_lt (p : List UInt8) : val p < 128 ^ p.length := by
  induction p with
  | nil => simp [val]
  | cons c p ih =>
    rw [val, List.length_cons, Nat.pow_succ]
    omega
/-- Only ten bytes are looked at. -/
theorem scan_take : ∀ (l : List UInt8) (i k : Nat), i + k = 10 → 0 < k → scan i (l.take k) = scan i l
  | [], i, k, _, _ => by simp
  | c :: l, i, 0, _, h0 => by omega
  | c :: l, i, k + 1, hk, _ => by
    rw [List.take_succ_cons]
    by_cases hs : (c.toNat = 0 ∧ 0 < i) ∨ (i = 9 ∧ c.toNat ≠ 1)
    · rw [scan_stop hs, scan_stop hs]
    · by_cases hc : c.toNat < 128
      · rw [scan_last hs hc, scan_last hs hc]
      · rw [scan_more hs hc, scan_more hs hc]
        exact scan_take l (i + 1) k (by omega) (by omega)
end Go.Proofs.Ytlpkkcodmoklaaa.Wire
