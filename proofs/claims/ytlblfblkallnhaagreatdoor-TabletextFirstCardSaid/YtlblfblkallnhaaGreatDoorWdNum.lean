/- The plain laws of numbers and lists of numbers as texts. -/
import Derived.Test.YtlblfblkallnhaaGreatDoorWdPlain
namespace Go.Proofs.YtlblfblkallnhaaGreatDoor
set_option linter.unusedVariables false
set_option linter.unusedSimpArgs false
open Go
/-! ### Digits -/
def isD (c : UInt8) : Bool := decide (48 ≤ c.toNat) && decide (c.toNat ≤ 57)
theorem isD_iff {c : UInt8} : isD c = true ↔ 48 ≤ c.toNat ∧ c.toNat ≤ 57 := by simp [isD]
/-- Digits without leading zeros. -/
def digB (l : List UInt8) : Bool := l.all isD && (!l.isEmpty && (decide (l.head? ≠ some 48) || decide (l.length = 1)))
/-- What digits represent, behind a number. -/
def valA (a : Nat) (l : List UInt8) : Nat := l.foldl (fun x c => x * 10 + (c.toNat - 48)) a
theorem valA_nil (a : Nat) : valA a [] = a := by unfold valA; rw [List.foldl_nil]
theorem valA_cons (a : Nat) (c : UInt8) (r : List UInt8) : valA a (c :: r) = valA (a * 10 + (c.toNat - 48)) r := by unfold valA; rw [List.foldl_cons]
theorem val_one (c : UInt8) : valA 0 [c] = c.toNat - 48 := by rw [valA_cons, valA_nil]; omega
def val (l : List UInt8) : Nat := valA 0 l
theorem valA_ge (l : List UInt8) (a : Nat) : a ≤ valA a l := by
  induction l generalizing a with
  | nil => rw [valA_nil]; exact Nat.le_refl _
  | cons c r ih =>
    have := ih (a * 10 + (c.toNat - 48))
    rw [valA_cons]
    omega
theorem valA_append (l m : List UInt8) (a : Nat) : valA a (l ++ m) = valA (valA a l) m := by
  unfold valA
  rw [List.foldl_append]
theorem valA_snoc (l : List UInt8) (a : Nat) (c : UInt8) : valA a (l ++ [c]) = valA a l * 10 + (c.toNat - 48) := by
  rw [valA_append, valA_cons, valA_nil]
theorem val_snoc (l : List UInt8) (c : UInt8) : val (l ++ [c]) = val l * 10 + (c.toNat - 48) := valA_snoc l 0 c
theorem val_take_le (l : List UInt8) (k : Nat) : val (l.take k) ≤ val l := by
  have h : val l = valA (val (l.take k)) (l.drop k) := by
    unfold val
    rw [← valA_append, List.take_append_drop]
  rw [h]
  exact valA_ge _ _
theorem u8n (n : Nat) (h : n < 256) : (UInt8.ofNat n).toNat = n := by simp; omega
theorem digits_val (u : Nat) : val (Lib.decDigits u) = u ∧ (Lib.decDigits u).all isD = true ∧ Lib.decDigits u ≠ [] ∧ (u ≠ 0 → (Lib.decDigits u).head? ≠ some 48) := by
  induction u using Nat.strongRecOn with
  | ind u ih =>
    rw [Lib.decDigits]
    by_cases h : u < 10
    · rw [dif_pos h]
      have e := u8n (48 + u) (by omega)
      refine ⟨?_, ?_, by simp, fun hz => ?_⟩
      · show valA 0 _ = u
        rw [val_one, e]; omega
      · simp [isD, e]; omega
      · simp only [List.head?_cons, ne_eq, Option.some.injEq]
        intro hh
        have := congrArg UInt8.toNat hh
        rw [e] at this
        have e48 : (48 : UInt8).toNat = 48 := rfl
        rw [e48] at this
        omega
    · rw [dif_neg h]
      obtain ⟨h1, h2, h3, h4⟩ := ih (u / 10) (by omega)
      have e := u8n (48 + u % 10) (by omega)
      refine ⟨?_, ?_, by simp, fun hz => ?_⟩
      · rw [val_snoc, h1, e]; omega
      · rw [List.all_append, h2]; simp [isD, e]; omega
      · have := h4 (by omega)
        cases hd : Lib.decDigits (u / 10) with
        | nil => exact absurd hd h3
        | cons a t => rw [hd] at this; simpa using this
theorem digits_digB (u : Nat) : digB (Lib.decDigits u) = true := by
  obtain ⟨_, h2, h3, h4⟩ := digits_val u
  unfold digB
  rw [h2]
  by_cases hz : u = 0
  · subst hz
    rw [Lib.decDigits_one (by omega)]
    rfl
  · have := h4 hz
    have h5 : (Lib.decDigits u).isEmpty = false := by simpa using h3
    simp [h5, this]
theorem digits_of_val : ∀ (k : Nat) (l : List UInt8), l.length = k → digB l = true → Lib.decDigits (val l) = l
  | 0, l, hk, h => by
    obtain rfl : l = [] := List.eq_nil_of_length_eq_zero hk
    simp [digB] at h
  | 1, l, hk, h => by
    match l, hk with
    | [c], _ =>
      unfold digB at h
      simp only [List.all_cons, List.all_nil, Bool.and_true, Bool.and_eq_true] at h
      have hc := isD_iff.1 h.1
      have e : val [c] = c.toNat - 48 := val_one c
      rw [e, Lib.decDigits_one (by omega), show 48 + (c.toNat - 48) = c.toNat by omega]
      simp
  | k + 2, l, hk, h => by
    have hne : l ≠ [] := by intro e; subst e; simp at hk
    obtain ⟨i, c, rfl⟩ : ∃ i c, l = i ++ [c] := ⟨l.dropLast, l.getLast hne, (List.dropLast_concat_getLast hne).symm⟩
    simp at hk
    have hi : digB i = true := by
      unfold digB at h ⊢
      simp only [List.all_append, Bool.and_eq_true] at h
      obtain ⟨⟨h1, h2⟩, h3, h4⟩ := h
      rw [h1]
      cases i with
      | nil => simp at hk
      | cons a t =>
        simp only [List.cons_append, List.head?_cons, List.length_cons, List.length_append, List.length_nil] at h4
        simp at h4
        simp [h4]
    have ih := digits_of_val (k + 1) i hk hi
    have hc : 48 ≤ c.toNat ∧ c.toNat ≤ 57 := by
      unfold digB at h
      simp only [List.all_append, Bool.and_eq_true, List.all_cons] at h
      exact isD_iff.1 h.1.2.1
    have hv : 1 ≤ val i := by
      cases i with
      | nil => simp at hk
      | cons a t =>
        unfold digB at h
        simp only [List.cons_append, List.all_cons, Bool.and_eq_true, List.head?_cons, List.length_cons, List.length_append, List.length_nil] at h
        obtain ⟨⟨h1, _⟩, _, h4⟩ := h
        have h1 := isD_iff.1 h1
        have h5 : a ≠ 48 := by simpa using h4
        have h6 : a.toNat ≠ 48 := fun e => h5 (UInt8.toNat_inj.1 e)
        unfold val
        rw [valA_cons]
        have := valA_ge t (0 * 10 + (a.toNat - 48))
        omega
    rw [val_snoc, Lib.decDigits, dif_neg (by omega), show (val i * 10 + (c.toNat - 48)) / 10 = val i by omega, ih, show 48 + (val i * 10 + (c.toNat - 48)) % 10 = c.toNat by omega]
    simp
/-! ### Numbers -/
def intF (s : List UInt8) : Int × Int :=
  let neg := s.head? = some 45
  let d := if neg then s.drop 1 else s
  if digB d = false ∨ (neg ∧ d = [48]) then (0, 4)
  else if neg then (if val d ≤ 9223372036854775808 then (-(val d : Int), 0) else (0, 17))
  else if val d < 9223372036854775808 then ((val d : Int), 0) else (0, 17)
theorem digB_head {d : List UInt8} (h : digB d = true) : d.head? ≠ some 45 ∧ d ≠ [] ∧ d.all isD = true := by
  unfold digB at h
  simp only [Bool.and_eq_true] at h
  obtain ⟨h1, h2, _⟩ := h
  cases d with
  | nil => simp at h2
  | cons a t =>
    refine ⟨?_, by simp, h1⟩
    simp only [List.all_cons, Bool.and_eq_true] at h1
    have := isD_iff.1 h1.1
    simp only [List.head?_cons, ne_eq, Option.some.injEq]
    rintro rfl
    exact absurd this.1 (by decide)
theorem int_itoa (n : Int) (h0 : -9223372036854775808 ≤ n) (h1 : n ≤ 9223372036854775807) : intF (Lib.itoa n) = (n, 0) := by
  unfold Lib.itoa
  split
  · rename_i hn
    have hv := digits_val n.natAbs
    have hd := digits_digB n.natAbs
    have hne : Lib.decDigits n.natAbs ≠ [48] := by
      intro e
      rw [e] at hv
      exact hv.2.2.2 (by omega) rfl
    unfold intF
    simp only [List.head?_cons, if_true, List.drop_succ_cons, List.drop_zero, hd, hne, and_false, or_false, hv.1]
    rw [if_neg (by decide), if_pos (by omega)]
    have : -((n.natAbs : Nat) : Int) = n := by omega
    rw [this]
  · have hv := digits_val n.toNat
    have hd := digits_digB n.toNat
    have hh := (digB_head hd).1
    unfold intF
    simp only [hh, if_false, hd, false_and, or_false, hv.1]
    rw [if_neg (by decide), if_pos (by omega)]
    have : ((n.toNat : Nat) : Int) = n := by omega
    rw [this]
theorem itoa_int {s : List UInt8} {n : Int} (h : intF s = (n, 0)) : Lib.itoa n = s ∧ -9223372036854775808 ≤ n ∧ n ≤ 9223372036854775807 := by
  unfold intF at h
  by_cases hn : s.head? = some 45
  · simp only [hn, if_true, true_and] at h
    obtain ⟨t, rfl⟩ : ∃ t, s = 45 :: t := by
      cases s with
      | nil => simp at hn
      | cons a t => simp at hn; exact ⟨t, by rw [hn]⟩
    simp only [List.drop_succ_cons, List.drop_zero] at h
    by_cases hb : digB t = false ∨ t = [48]
    · rw [if_pos hb] at h; simp at h
    · rw [if_neg hb] at h
      have hd : digB t = true := by cases hx : digB t <;> simp_all
      split at h
      · rename_i hv
        simp only [Prod.mk.injEq, and_true] at h
        subst h
        have e := digits_of_val _ t rfl hd
        have hpos : 1 ≤ val t := by
          rcases Nat.eq_zero_or_pos (val t) with hz | hz
          · rw [hz, Lib.decDigits_one (by omega)] at e
            exact absurd e.symm (fun x => hb (Or.inr x))
          · exact hz
        refine ⟨?_, by omega, by omega⟩
        unfold Lib.itoa
        rw [if_pos (by omega), Int.natAbs_neg, Int.natAbs_natCast, e]
      · simp at h
  · simp only [hn, if_false, false_and, or_false] at h
    by_cases hb : digB s = false
    · rw [if_pos hb] at h; simp at h
    · rw [if_neg hb] at h
      have hd : digB s = true := by cases hx : digB s <;> simp_all
      split at h
      · rename_i hv
        simp only [Prod.mk.injEq, and_true] at h
        subst h
        have e := digits_of_val _ s rfl hd
        refine ⟨?_, by omega, by omega⟩
        unfold Lib.itoa
        rw [if_neg (by omega), Int.toNat_natCast, e]
      · simp at h
/-! ### What strconv.Atoi gives for digits -/
theorem parse_nil (a : Nat) : Lib.parseUint10 a [] = .ok a := by rw [Lib.parseUint10]
theorem parse_digits (l : List UInt8) (a : Nat) (h : l.all isD = true) (ha : a < 18446744073709551616) : Lib.parseUint10 a l = if valA a l < 18446744073709551616 then .ok (valA a l) else .range := by
  induction l generalizing a with
  | nil => rw [parse_nil, valA_nil, if_pos ha]
  | cons c r ih =>
    simp only [List.all_cons, Bool.and_eq_true] at h
    have hc := isD_iff.1 h.1
    have hge := valA_ge r (a * 10 + (c.toNat - 48))
    rw [Lib.parseUint10, if_pos hc, valA_cons]
    by_cases h1 : 1844674407370955162 ≤ a
    · rw [if_pos h1, if_neg (by omega)]
    · rw [if_neg h1]
      by_cases h2 : 18446744073709551616 ≤ a * 10 + (c.toNat - 48)
      · rw [if_pos h2, if_neg (by omega)]
      · rw [if_neg h2, ih _ h.2 (by omega)]
theorem mag_digits {d : List UInt8} (h : digB d = true) : Lib.parseMag d = if val d < 18446744073709551616 then .ok (val d) else .range := by
  obtain ⟨_, h2, h3⟩ := digB_head h
  unfold Lib.parseMag
  rw [if_neg h2, parse_digits d 0 h3 (by omega)]
  rfl
/-- Digits behind a sign. -/
theorem atoi_neg {d : List UInt8} (h : digB d = true) : Lib.atoiAll (45 :: d) = if val d ≤ 9223372036854775808 then .ok (-(val d : Int)) else .range := by
  have e45 : (45 : UInt8).toNat = 45 := rfl
  unfold Lib.atoiAll
  simp only [e45, or_true, if_true, mag_digits h, not_true_eq_false, false_and, if_false, true_and]
  by_cases h1 : val d < 18446744073709551616
  · rw [if_pos h1]
    by_cases h2 : val d ≤ 9223372036854775808
    · rw [if_pos h2]
      simp only
      rw [if_neg (by omega)]
    · rw [if_neg h2]
      simp only
      rw [if_pos (by omega)]
  · rw [if_neg h1, if_neg (by omega)]
theorem atoi_pos {d : List UInt8} (h : digB d = true) : Lib.atoiAll d = if val d < 9223372036854775808 then .ok (val d : Int) else .range := by
  cases d with
  | nil => simp [digB] at h
  | cons c r =>
    have hm := mag_digits h
    have hc : 48 ≤ c.toNat ∧ c.toNat ≤ 57 := by
      have := (digB_head h).2.2
      simp only [List.all_cons, Bool.and_eq_true] at this
      exact isD_iff.1 this.1
    have h1 : ¬ c.toNat = 45 := by omega
    have h2 : ¬ c.toNat = 43 := by omega
    unfold Lib.atoiAll
    simp only [h1, h2, or_self, if_false, hm, not_false_eq_true, true_and, false_and]
    by_cases h1 : val (c :: r) < 18446744073709551616
    · rw [if_pos h1]
      by_cases h2 : val (c :: r) < 9223372036854775808
      · rw [if_pos h2]
        simp only
        rw [if_neg (by omega)]
      · rw [if_neg h2]
        simp only
        rw [if_pos (by omega)]
    · rw [if_neg h1, if_neg (by omega)]
/-! ### Names -/
def nmB (c : UInt8) : Bool := (decide (97 ≤ c.toNat) && decide (c.toNat ≤ 122)) || ((decide (48 ≤ c.toNat) && decide (c.toNat ≤ 57)) || decide (c.toNat = 95))
def loB (c : UInt8) : Bool := decide (97 ≤ c.toNat) && decide (c.toNat ≤ 122)
def nameB (s : List UInt8) : Bool := (decide (1 ≤ s.length) && decide (s.length ≤ 12)) && ((s.head?.map loB).getD false && s.all nmB)
/-! ### Lists -/
def listK (acc : List Int) : List (List UInt8) → List Int × Int
  | [] => (acc, 0)
  | p :: r => if (intF p).2 = 0 then listK (acc ++ [(intF p).1]) r else ([], (intF p).2)
def listF (s : List UInt8) : List Int × Int := if s = [45] then ([], 0) else listK [] (spl 44 s)
def fmtF (l : List Int) : List UInt8 := if l = [] then [45] else Lib.join (l.map Lib.itoa) [44]
def I64s (l : List Int) : Prop := ∀ n ∈ l, -9223372036854775808 ≤ n ∧ n ≤ 9223372036854775807
theorem listK_itoa : ∀ (l acc : List Int), I64s l → listK acc (l.map Lib.itoa) = (acc ++ l, 0)
  | [], acc, _ => by simp [listK]
  | n :: r, acc, h => by
    have hn := h n (by simp)
    rw [List.map_cons, listK, int_itoa n hn.1 hn.2, if_pos rfl, listK_itoa r _ (fun m hm => h m (by simp [hm]))]
    simp
theorem itoa_chars (n : Int) : (∀ c ∈ Lib.itoa n, isD c = true ∨ c = 45) ∧ Lib.itoa n ≠ [] ∧ Lib.itoa n ≠ [45] := by
  unfold Lib.itoa
  split
  · obtain ⟨_, h2, h3, _⟩ := digits_val n.natAbs
    refine ⟨fun c hc => ?_, by simp, fun h => h3 (by simpa using h)⟩
    simp only [List.mem_cons] at hc
    rcases hc with rfl | hc
    · exact .inr rfl
    · exact .inl (List.all_eq_true.1 h2 c hc)
  · obtain ⟨_, h2, h3, _⟩ := digits_val n.toNat
    refine ⟨fun c hc => .inl (List.all_eq_true.1 h2 c hc), h3, fun h => ?_⟩
    rw [h] at h2
    exact absurd h2 (by decide)
theorem itoa_no (n : Int) (c : UInt8) (h1 : isD c = false) (h2 : c ≠ 45) : c ∉ Lib.itoa n := by
  intro h
  rcases (itoa_chars n).1 c h with h3 | h3
  · rw [h1] at h3; cases h3
  · exact h2 h3
theorem join_ne45 (l : List Int) (h : l ≠ []) : Lib.join (l.map Lib.itoa) [44] ≠ [45] := by
  cases l with
  | nil => exact absurd rfl h
  | cons n r =>
    rw [List.map_cons, Lib.join_cons]
    obtain ⟨_, h2, h3⟩ := itoa_chars n
    intro e
    cases hi : Lib.itoa n with
    | nil => exact h2 hi
    | cons a t =>
      rw [hi] at e h3
      simp only [List.cons_append, List.cons.injEq, List.append_eq_nil_iff] at e
      exact h3 (by rw [e.1, e.2.1])
theorem list_fmt (l : List Int) (h : I64s l) : listF (fmtF l) = (l, 0) := by
  unfold fmtF
  by_cases hl : l = []
  · subst hl; simp [listF]
  · rw [if_neg hl]
    unfold listF
    rw [if_neg (join_ne45 l hl), spl_join 44 _ (by simpa using hl) (fun w hw => by
      obtain ⟨n, _, rfl⟩ := List.mem_map.1 hw
      exact itoa_no n 44 (by decide) (by decide)), listK_itoa l [] h]
    simp
theorem listK_ok : ∀ (ps : List (List UInt8)) (acc a : List Int), listK acc ps = (a, 0) → ∃ b, a = acc ++ b ∧ b.map Lib.itoa = ps ∧ I64s b
  | [], acc, a, h => by
    simp [listK] at h
    exact ⟨[], by simp [h], rfl, fun n hn => by simp at hn⟩
  | p :: r, acc, a, h => by
    rw [listK] at h
    split at h
    · rename_i h0
      obtain ⟨b, h1, h2, h3⟩ := listK_ok r _ a h
      obtain ⟨e1, e2, e3⟩ := itoa_int (s := p) (n := (intF p).1) (by rw [← h0])
      refine ⟨(intF p).1 :: b, by simp [h1], by rw [List.map_cons, e1, h2], fun n hn => ?_⟩
      simp only [List.mem_cons] at hn
      rcases hn with rfl | hn
      · exact ⟨e2, e3⟩
      · exact h3 n hn
    · rename_i h0
      simp only [Prod.mk.injEq] at h
      exact absurd h.2 h0
theorem fmt_list {s : List UInt8} {a : List Int} (h : listF s = (a, 0)) : fmtF a = s ∧ I64s a := by
  unfold listF at h
  split at h
  · rename_i hs
    simp at h
    subst h
    exact ⟨by simp [fmtF, hs], fun n hn => by simp at hn⟩
  · obtain ⟨b, h1, h2, h3⟩ := listK_ok _ _ _ h
    simp at h1
    subst h1
    refine ⟨?_, h3⟩
    have hne : a ≠ [] := by
      rintro rfl
      exact spl_ne 44 s h2.symm
    unfold fmtF
    rw [if_neg hne, h2, join_spl]
theorem listK_code : ∀ (ps : List (List UInt8)) (acc : List Int), (listK acc ps).2 ≠ 0 → (listK acc ps).1 = []
  | [], acc, h => by simp [listK] at h
  | p :: r, acc, h => by
    rw [listK] at h ⊢
    split
    · rename_i h0
      rw [if_pos h0] at h
      exact listK_code r _ h
    · rfl
end Go.Proofs.YtlblfblkallnhaaGreatDoor
