/- The plain laws of lines, words, numbers, names and lists: over lists of bytes, no program in sight. The plain laws of numbers and lists of numbers as texts. -/
import Derived.Lib.SplitLaws
import Derived.Lib.Join
import Derived.Lib.ItoaLen
import Derived.Lib.AtoiAll
namespace Go.Proofs.YtlblfblkallnhaaGreatDoor
set_option linter.unusedVariables false
set_option linter.unusedSimpArgs false
open Go
/-! ### Splitting at a byte -/
/-- The parts of a text between the bytes c. -/
def spl (c : UInt8) : List UInt8 → List (List UInt8)
  | [] => [[]]
  | x :: r => if x = c then [] :: spl c r else (x :: (spl c r).headD []) :: (spl c r).tail
theorem spl_ne (c : UInt8) (l : List UInt8) : spl c l ≠ [] := by
  cases l with
  | nil => simp [spl]
  | cons x r => unfold spl; split <;> simp
theorem spl_eta (c : UInt8) (l : List UInt8) : (spl c l).headD [] :: (spl c l).tail = spl c l := by
  have := spl_ne c l
  cases h : spl c l with
  | nil => exact absurd h this
  | cons a t => rfl
theorem spl_no {c : UInt8} : ∀ {l : List UInt8}, c ∉ l → spl c l = [l]
  | [], _ => rfl
  | x :: r, h => by
    have h1 : ¬ x = c := fun e => h (by simp [e])
    have h2 : c ∉ r := fun e => h (by simp [e])
    unfold spl
    rw [if_neg h1, spl_no h2]
    rfl
theorem spl_cut {c : UInt8} : ∀ {a : List UInt8} (b : List UInt8), c ∉ a → spl c (a ++ c :: b) = a :: spl c b
  | [], b, _ => by simp [spl]
  | x :: r, b, h => by
    have h1 : ¬ x = c := fun e => h (by simp [e])
    have h2 : c ∉ r := fun e => h (by simp [e])
    rw [List.cons_append, spl, if_neg h1, spl_cut b h2]
    rfl
theorem at_or (c : UInt8) : ∀ l : List UInt8, c ∉ l ∨ ∃ a b, l = a ++ c :: b ∧ c ∉ a
  | [] => .inl (by simp)
  | x :: r => by
    by_cases h : x = c
    · exact .inr ⟨[], r, by simp [h], by simp⟩
    · rcases at_or c r with h1 | ⟨a, b, h1, h2⟩
      · exact .inl (by simp [h1]; exact fun e => h e.symm)
      · exact .inr ⟨x :: a, b, by simp [h1], by simp [h2]; exact fun e => h e.symm⟩
theorem join_spl (c : UInt8) (l : List UInt8) : Lib.join (spl c l) [c] = l := by
  induction l with
  | nil => simp [spl, Lib.join_one]
  | cons x r ih =>
    unfold spl
    split
    · rename_i h
      subst h
      have hne := spl_ne x r
      cases hs : spl x r with
      | nil => exact absurd hs hne
      | cons a t =>
        rw [hs, Lib.join_cons] at ih
        rw [Lib.join_cons]
        simp only [Lib.joinTail, List.map_cons, List.flatten_cons] at ih ⊢
        conv => rhs; rw [← ih]
        simp
    · have hne := spl_ne c r
      cases hs : spl c r with
      | nil => exact absurd hs hne
      | cons a t =>
        rw [hs, Lib.join_cons] at ih
        simp only [List.headD_cons, List.tail_cons, Lib.join_cons, List.cons_append]
        rw [ih]
theorem spl_join (c : UInt8) : ∀ (ws : List (List UInt8)), ws ≠ [] → (∀ w ∈ ws, c ∉ w) → spl c (Lib.join ws [c]) = ws
  | [], h, _ => absurd rfl h
  | [w], _, h => by rw [Lib.join_one]; exact spl_no (h w (by simp))
  | w :: v :: r, _, h => by
    rw [Lib.join_cons]
    have e : Lib.joinTail [c] (v :: r) = c :: Lib.join (v :: r) [c] := by rw [Lib.join_cons]; simp [Lib.joinTail]
    rw [e, spl_cut _ (h w (by simp)), spl_join c (v :: r) (by simp) (fun u hu => h u (by simp [hu]))]
/-! ### What the library's functions compute at a separator of one byte -/
theorem index_one (c : UInt8) : ∀ l : List UInt8, (c ∉ l → Lib.index l [c] = -1) ∧ ∀ a b, l = a ++ c :: b → c ∉ a → Lib.index l [c] = (a.length : Int)
  | [] => ⟨fun _ => by simp [Lib.index], fun a b h => by simp at h⟩
  | x :: r => by
    have hix : Lib.index (x :: r) [c] = if ([c] : List UInt8).isPrefixOf (x :: r) then 0 else if Lib.index r [c] == -1 then -1 else Lib.index r [c] + 1 := by rw [Lib.index]
    have ih := index_one c r
    refine ⟨fun h => ?_, fun a b h ha => ?_⟩
    · have h1 : ¬ x = c := fun e => h (by simp [e])
      rw [hix, if_neg (by simp [List.isPrefixOf]; exact fun e => h1 e.symm), ih.1 (fun e => h (by simp [e]))]
      rfl
    · cases a with
      | nil =>
        simp at h
        rw [hix, if_pos (by simp [List.isPrefixOf, h.1])]
        rfl
      | cons y a =>
        simp only [List.cons_append, List.cons.injEq] at h
        obtain ⟨rfl, h⟩ := h
        have h1 : ¬ x = c := fun e => ha (by simp [e])
        rw [hix, if_neg (by simp [List.isPrefixOf]; exact fun e => h1 e.symm), ih.2 a b h (fun e => ha (by simp [e])), if_neg (by simp)]
        simp
theorem contains_one (c : UInt8) (l : List UInt8) : Lib.contains l [c] = decide (c ∈ l) := by
  unfold Lib.contains
  rcases at_or c l with h | ⟨a, b, h, ha⟩
  · rw [(index_one c l).1 h]; simp [h]
  · rw [(index_one c l).2 a b h ha]
    have : c ∈ l := by rw [h]; simp
    simp [this]
theorem cut_no {c : UInt8} {l : List UInt8} (h : c ∉ l) : Lib.cut l [c] = (l, [], false) := by
  unfold Lib.cut
  rw [(index_one c l).1 h, if_neg (by decide)]
theorem cut_at {c : UInt8} {a b : List UInt8} (h : c ∉ a) : Lib.cut (a ++ c :: b) [c] = (a, b, true) := by
  unfold Lib.cut
  rw [(index_one c _).2 a b rfl h, if_pos (by omega)]
  simp
theorem splitK_spl (c : UInt8) : ∀ (k : Nat) (l : List UInt8), l.length ≤ k → Lib.splitK [c] 0 (Lib.count l [c]) l = spl c l := by
  intro k
  induction k with
  | zero =>
    intro l hl
    obtain rfl : l = [] := List.eq_nil_of_length_eq_zero (by omega)
    rw [Lib.count_miss ((index_one c []).1 (by simp))]
    rfl
  | succ k ih =>
    intro l hl
    rcases at_or c l with h | ⟨a, b, h, ha⟩
    · rw [Lib.count_miss ((index_one c l).1 h), spl_no h]
      rfl
    · have hi := (index_one c l).2 a b h ha
      have hd : l.drop (a.length + ([c] : List UInt8).length) = b := by rw [h]; simp
      have hl' : l.length = a.length + b.length + 1 := by rw [h]; simp; omega
      rw [Lib.count_hit (by simp) hi, hd, Nat.add_comm, Lib.splitK, hi, if_neg (by simp)]
      simp only [Int.toNat_natCast]
      rw [hd, ih b (by omega)]
      conv => rhs; rw [h, spl_cut b ha]
      rw [h]
      simp
/-! ### Words and lines -/
/-- Is a byte one of a word? -/
def chB (c : UInt8) : Bool := decide (33 ≤ c.toNat) && decide (c.toNat ≤ 126)
def wordB (w : List UInt8) : Bool := w.all chB && (decide (1 ≤ w.length) && decide (w.length ≤ 64))
/-- The look at a line, rune by rune: n is the length of the word so far. -/
def lnB : Nat → List UInt8 → Bool
  | n, [] => decide (0 < n)
  | n, c :: r => if c.toNat = 32 ∧ 0 < n then lnB 0 r else if (33 ≤ c.toNat ∧ c.toNat ≤ 126) ∧ n < 64 then lnB (n + 1) r else false
theorem lnB_gen : ∀ (l p : List UInt8), p.all chB = true → p.length ≤ 64 → lnB p.length l = ((p ++ (spl 32 l).headD []) :: (spl 32 l).tail).all wordB
  | [], p, hp, hl => by
    simp only [lnB, spl, List.headD_cons, List.tail_cons, List.append_nil, List.all_cons, List.all_nil, Bool.and_true, wordB, hp, Bool.true_and]
    rw [decide_eq_true hl, Bool.and_true]
    rfl
  | c :: r, p, hp, hl => by
    have eta := spl_eta 32 r
    by_cases h32 : c = 32
    · subst h32
      have ih := lnB_gen r [] (by simp) (by simp)
      simp only [List.length_nil, List.nil_append] at ih
      rw [eta] at ih
      have e32 : (32 : UInt8).toNat = 32 := rfl
      rw [lnB, spl, if_pos rfl]
      simp only [List.headD_cons, List.tail_cons, List.append_nil, List.all_cons]
      by_cases hz : 0 < p.length
      · rw [if_pos ⟨e32, hz⟩, ih]
        have : wordB p = true := by unfold wordB; rw [hp, decide_eq_true hl, decide_eq_true (show 1 ≤ p.length from hz)]; rfl
        rw [this, Bool.true_and]
      · rw [if_neg (fun h => hz h.2), if_neg (fun h => by rw [e32] at h; omega)]
        have : wordB p = false := by unfold wordB; rw [decide_eq_false (show ¬ 1 ≤ p.length from hz)]; simp
        rw [this, Bool.false_and]
    · have hn : ¬ (c.toNat = 32 ∧ 0 < p.length) := fun h => h32 (UInt8.toNat_inj.1 h.1)
      rw [lnB, if_neg hn, spl, if_neg h32]
      simp only [List.headD_cons, List.tail_cons]
      by_cases hc : (33 ≤ c.toNat ∧ c.toNat ≤ 126) ∧ p.length < 64
      · have ih := lnB_gen r (p ++ [c]) (by simp only [List.all_append, hp, List.all_cons, List.all_nil, chB, hc.1.1, hc.1.2]; rfl) (by simp; omega)
        rw [if_pos hc]
        simp only [List.length_append, List.length_cons, List.length_nil, List.append_assoc, List.cons_append, List.nil_append] at ih
        exact ih
      · rw [if_neg hc]
        have : wordB (p ++ c :: (spl 32 r).headD []) = false := by
          unfold wordB
          by_cases h1 : 33 ≤ c.toNat ∧ c.toNat ≤ 126
          · have : ¬ (p ++ c :: (spl 32 r).headD []).length ≤ 64 := by simp; omega
            rw [decide_eq_false this]; simp
          · have : chB c = false := by
              unfold chB
              by_cases h2 : 33 ≤ c.toNat
              · rw [decide_eq_false (show ¬ c.toNat ≤ 126 by omega)]; simp
              · rw [decide_eq_false h2]; rfl
            simp [this]
        rw [List.all_cons, this, Bool.false_and]
theorem lnB_words (l : List UInt8) : lnB 0 l = (spl 32 l).all wordB := by
  have h := lnB_gen l [] (by simp) (by simp)
  simp only [List.length_nil, List.nil_append] at h
  rw [spl_eta] at h
  exact h
theorem wordB_no {w : List UInt8} (h : wordB w = true) {c : UInt8} (hc : chB c = false) : c ∉ w := by
  intro hm
  unfold wordB at h
  simp only [Bool.and_eq_true, List.all_eq_true] at h
  rw [h.1 c hm] at hc
  cases hc
theorem wordB_len {w : List UInt8} (h : wordB w = true) : 1 ≤ w.length ∧ w.length ≤ 64 := by
  unfold wordB at h
  simp only [Bool.and_eq_true, decide_eq_true_eq] at h
  exact h.2
theorem word_line (w : List UInt8) : wordB w = (lnB 0 w && !Lib.contains w [32]) := by
  rw [lnB_words, contains_one]
  by_cases h : (32 : UInt8) ∈ w
  · have h1 : wordB w = false := by
      cases hw : wordB w with
      | false => rfl
      | true => exact absurd h (wordB_no hw (by decide))
    simp [h, h1]
  · rw [spl_no h]; simp [h]
/-! ### Lines -/
abbrev Lns := List (List (List UInt8))
/-- How a text is read: what was read, the words of the line so far, the word so far, and what is left. -/
def scan (out : Lns) (line : List (List UInt8)) (cur : List UInt8) : List UInt8 → Lns × Nat × Int
  | [] => if cur = [] ∧ line = [] then (out, 0, 0) else ([], out.length + 1, 4)
  | c :: r =>
    if c = 32 ∨ c = 10 then
      if wordB cur then (if c = 10 then scan (out ++ [line ++ [cur]]) [] [] r else scan out (line ++ [cur]) [] r)
      else ([], out.length + 1, 4)
    else scan out line (cur ++ [c]) r
def linesF (s : List UInt8) : Lns × Nat × Int := if 32768 < s.length then ([], 0, 2) else scan [] [] [] s
theorem scan_line (out : Lns) (rest : List UInt8) : ∀ (l : List UInt8) (l0 : List (List UInt8)) (cur : List UInt8), (10 : UInt8) ∉ l →
    scan out l0 cur (l ++ 10 :: rest) = if ((cur ++ (spl 32 l).headD []) :: (spl 32 l).tail).all wordB then scan (out ++ [l0 ++ ((cur ++ (spl 32 l).headD []) :: (spl 32 l).tail)]) [] [] rest else ([], out.length + 1, 4)
  | [], l0, cur, _ => by
    simp only [List.nil_append, scan, or_true, if_true, spl, List.headD_cons, List.tail_cons, List.append_nil, List.all_cons, List.all_nil, Bool.and_true]
  | c :: r, l0, cur, h => by
    have h1 : ¬ c = 10 := fun e => h (by simp [e])
    have h2 : (10 : UInt8) ∉ r := fun e => h (by simp [e])
    rw [List.cons_append, scan]
    by_cases h32 : c = 32
    · subst h32
      rw [if_pos (Or.inl rfl), spl, if_pos rfl]
      simp only [List.headD_cons, List.tail_cons, List.append_nil, List.all_cons]
      by_cases hw : wordB cur = true
      · rw [if_pos hw, if_neg h1, scan_line out rest r _ _ h2, List.nil_append, spl_eta, hw, Bool.true_and]
        simp only [List.append_assoc, List.cons_append, List.nil_append]
      · rw [if_neg hw]
        have hw' : wordB cur = false := by simpa using hw
        rw [hw', Bool.false_and, if_neg (by simp)]
    · rw [if_neg (by simp [h32, h1]), scan_line out rest r _ _ h2, spl, if_neg h32]
      simp only [List.headD_cons, List.tail_cons, List.append_assoc, List.cons_append, List.nil_append]
      rfl
theorem scan_last (out : Lns) : ∀ (l : List UInt8) (l0 : List (List UInt8)) (cur : List UInt8), (10 : UInt8) ∉ l →
    scan out l0 cur l = if (cur = [] ∧ l0 = []) ∧ l = [] then (out, 0, 0) else ([], out.length + 1, 4)
  | [], l0, cur, _ => by simp [scan]
  | c :: r, l0, cur, h => by
    have h1 : ¬ c = 10 := fun e => h (by simp [e])
    have h2 : (10 : UInt8) ∉ r := fun e => h (by simp [e])
    rw [scan]
    by_cases h32 : c = 32
    · rw [if_pos (Or.inl h32), if_neg h1, scan_last out r _ _ h2]
      simp
    · rw [if_neg (by simp [h32, h1]), scan_last out r _ _ h2]
      simp
/-- A whole line. -/
theorem scan_cut (out : Lns) (l rest : List UInt8) (h : (10 : UInt8) ∉ l) : scan out [] [] (l ++ 10 :: rest) = if lnB 0 l then scan (out ++ [spl 32 l]) [] [] rest else ([], out.length + 1, 4) := by
  rw [scan_line out rest l [] [] h, List.nil_append, spl_eta, lnB_words, List.nil_append]
theorem scan_end (out : Lns) (l : List UInt8) (h : (10 : UInt8) ∉ l) (hne : l ≠ []) : scan out [] [] l = ([], out.length + 1, 4) := by
  rw [scan_last out l [] [] h, if_neg (fun e => hne e.2)]
/-! ### Texts -/
def lineT (ws : List (List UInt8)) : List UInt8 := Lib.join ws [32] ++ [10]
def textOf (ls : Lns) : List UInt8 := (ls.map lineT).flatten
def goodL (l : List (List UInt8)) : Bool := !l.isEmpty && l.all wordB
def joinF (ls : Lns) : List UInt8 × Int := if ls.all goodL then (if 32768 < (textOf ls).length then ([], 2) else (textOf ls, 0)) else ([], 1)
theorem goodL_iff {l : List (List UInt8)} : goodL l = true ↔ l ≠ [] ∧ ∀ w ∈ l, wordB w = true := by
  unfold goodL
  cases l <;> simp
theorem scan_ok : ∀ (k : Nat) (s : List UInt8) (out m : Lns) (n : Nat), s.length ≤ k → scan out [] [] s = (m, n, 0) → ∃ ls : Lns, m = out ++ ls ∧ ls.all goodL = true ∧ s = textOf ls ∧ n = 0
  | 0, s, out, m, n, hl, h => by
    obtain rfl : s = [] := List.eq_nil_of_length_eq_zero (by omega)
    simp [scan] at h
    exact ⟨[], by simp [h.1], rfl, rfl, by simp [h.2]⟩
  | k + 1, s, out, m, n, hl, h => by
    rcases at_or 10 s with h1 | ⟨a, b, rfl, h1⟩
    · by_cases hs : s = []
      · subst hs
        simp [scan] at h
        exact ⟨[], by simp [h.1], rfl, rfl, by simp [h.2]⟩
      · rw [scan_end _ _ h1 hs] at h
        simp at h
    · rw [scan_cut _ _ _ h1] at h
      split at h
      · rename_i hg
        obtain ⟨ls, e1, e2, e3, e4⟩ := scan_ok k b _ m n (by simp at hl; omega) h
        refine ⟨spl 32 a :: ls, by simp [e1], ?_, ?_, e4⟩
        · rw [List.all_cons, e2, Bool.and_true]
          rw [lnB_words] at hg
          exact goodL_iff.2 ⟨spl_ne _ _, by simpa using hg⟩
        · rw [e3]
          simp [textOf, lineT, join_spl]
      · simp at h
theorem lines_ok {s : List UInt8} {m : Lns} {n : Nat} (h : linesF s = (m, n, 0)) : m.all goodL = true ∧ s = textOf m ∧ n = 0 ∧ s.length ≤ 32768 := by
  unfold linesF at h
  split at h
  · simp at h
  · rename_i hl
    obtain ⟨ls, e1, e2, e3, e4⟩ := scan_ok s.length s _ m n (Nat.le_refl _) h
    simp only [List.nil_append] at e1
    subst e1
    exact ⟨e2, e3, e4, by omega⟩
end Go.Proofs.YtlblfblkallnhaaGreatDoor
namespace Go.Proofs.YtlblfblkallnhaaGreatDoor
set_option linter.unusedVariables false
set_option linter.unusedSimpArgs false
open Go
/-! ### Digits -/
def isD (c : UInt8) : Bool := decide (48 ≤ c.toNat) && decide (c.toNat ≤ 57)
theorem isD_iff {c : UInt8} : isD c = true ↔ 48 ≤ c.toNat ∧ c.toNat ≤ 57 := by simp [isD]
/-- Digits without leading zeros. -/
def digB (l : List UInt8) : Bool := l.all isD && (!l.isEmpty && (decide (l.head? ≠ some 48) || decide (l.length = 1)))
/-- What digits represent, behind a number. -/
def valA (a : Nat) (l : List UInt8) : Nat := l.foldl (fun x c => x * 10 + (c.toNat - 48)) a
theorem valA_nil (a : Nat) : valA a [] = a := by unfold valA; rw [List.foldl_nil]
theorem valA_cons (a : Nat) (c : UInt8) (r : List UInt8) : valA a (c :: r) = valA (a * 10 + (c.toNat - 48)) r := by unfold valA; rw [List.foldl_cons]
theorem val_one (c : UInt8) : valA 0 [c] = c.toNat - 48 := by rw [valA_cons, valA_nil]; omega
def val (l : List UInt8) : Nat := valA 0 l
theorem valA_ge (l : List UInt8) (a : Nat) : a ≤ valA a l := by
  induction l generalizing a with
  | nil => rw [valA_nil]; exact Nat.le_refl _
  | cons c r ih =>
    have := ih (a * 10 + (c.toNat - 48))
    rw [valA_cons]
    omega
theorem valA_append (l m : List UInt8) (a : Nat) : valA a (l ++ m) = valA (valA a l) m := by
  unfold valA
  rw [List.foldl_append]
theorem valA_snoc (l : List UInt8) (a : Nat) (c : UInt8) : valA a (l ++ [c]) = valA a l * 10 + (c.toNat - 48) := by
  rw [valA_append, valA_cons, valA_nil]
theorem val_snoc (l : List UInt8) (c : UInt8) : val (l ++ [c]) = val l * 10 + (c.toNat - 48) := valA_snoc l 0 c
theorem val_take_le (l : List UInt8) (k : Nat) : val (l.take k) ≤ val l := by
  have h : val l = valA (val (l.take k)) (l.drop k) := by
    unfold val
    rw [← valA_append, List.take_append_drop]
  rw [h]
  exact valA_ge _ _
theorem u8n (n : Nat) (h : n < 256) : (UInt8.ofNat n).toNat = n := by simp; omega
theorem digits_val (u : Nat) : val (Lib.decDigits u) = u ∧ (Lib.decDigits u).all isD = true ∧ Lib.decDigits u ≠ [] ∧ (u ≠ 0 → (Lib.decDigits u).head? ≠ some 48) := by
  induction u using Nat.strongRecOn with
  | ind u ih =>
    rw [Lib.decDigits]
    by_cases h : u < 10
    · rw [dif_pos h]
      have e := u8n (48 + u) (by omega)
      refine ⟨?_, ?_, by simp, fun hz => ?_⟩
      · show valA 0 _ = u
        rw [val_one, e]; omega
      · simp [isD, e]; omega
      · simp only [List.head?_cons, ne_eq, Option.some.injEq]
        intro hh
        have := congrArg UInt8.toNat hh
        rw [e] at this
        have e48 : (48 : UInt8).toNat = 48 := rfl
        rw [e48] at this
        omega
    · rw [dif_neg h]
      obtain ⟨h1, h2, h3, h4⟩ := ih (u / 10) (by omega)
      have e := u8n (48 + u % 10) (by omega)
      refine ⟨?_, ?_, by simp, fun hz => ?_⟩
      · rw [val_snoc, h1, e]; omega
      · rw [List.all_append, h2]; simp [isD, e]; omega
      · have := h4 (by omega)
        cases hd : Lib.decDigits (u / 10) with
        | nil => exact absurd hd h3
        | cons a t => rw [hd] at this; simpa using this
theorem digits_digB (u : Nat) : digB (Lib.decDigits u) = true := by
  obtain ⟨_, h2, h3, h4⟩ := digits_val u
  unfold digB
  rw [h2]
  by_cases hz : u = 0
  · subst hz
    rw [Lib.decDigits_one (by omega)]
    rfl
  · have := h4 hz
    have h5 : (Lib.decDigits u).isEmpty = false := by simpa using h3
    simp [h5, this]
theorem digits_of_val : ∀ (k : Nat) (l : List UInt8), l.length = k → digB l = true → Lib.decDigits (val l) = l
  | 0, l, hk, h => by
    obtain rfl : l = [] := List.eq_nil_of_length_eq_zero hk
    simp [digB] at h
  | 1, l, hk, h => by
    match l, hk with
    | [c], _ =>
      unfold digB at h
      simp only [List.all_cons, List.all_nil, Bool.and_true, Bool.and_eq_true] at h
      have hc := isD_iff.1 h.1
      have e : val [c] = c.toNat - 48 := val_one c
      rw [e, Lib.decDigits_one (by omega), show 48 + (c.toNat - 48) = c.toNat by omega]
      simp
  | k + 2, l, hk, h => by
    have hne : l ≠ [] := by intro e; subst e; simp at hk
    obtain ⟨i, c, rfl⟩ : ∃ i c, l = i ++ [c] := ⟨l.dropLast, l.getLast hne, (List.dropLast_concat_getLast hne).symm⟩
    simp at hk
    have hi : digB i = true := by
      unfold digB at h ⊢
      simp only [List.all_append, Bool.and_eq_true] at h
      obtain ⟨⟨h1, h2⟩, h3, h4⟩ := h
      rw [h1]
      cases i with
      | nil => simp at hk
      | cons a t =>
        simp only [List.cons_append, List.head?_cons, List.length_cons, List.length_append, List.length_nil] at h4
        simp at h4
        simp [h4]
    have ih := digits_of_val (k + 1) i hk hi
    have hc : 48 ≤ c.toNat ∧ c.toNat ≤ 57 := by
      unfold digB at h
      simp only [List.all_append, Bool.and_eq_true, List.all_cons] at h
      exact isD_iff.1 h.1.2.1
    have hv : 1 ≤ val i := by
      cases i with
      | nil => simp at hk
      | cons a t =>
        unfold digB at h
        simp only [List.cons_append, List.all_cons, Bool.and_eq_true, List.head?_cons, List.length_cons, List.length_append, List.length_nil] at h
        obtain ⟨⟨h1, _⟩, _, h4⟩ := h
        have h1 := isD_iff.1 h1
        have h5 : a ≠ 48 := by simpa using h4
        have h6 : a.toNat ≠ 48 := fun e => h5 (UInt8.toNat_inj.1 e)
        unfold val
        rw [valA_cons]
        have := valA_ge t (0 * 10 + (a.toNat - 48))
        omega
    rw [val_snoc, Lib.decDigits, dif_neg (by omega), show (val i * 10 + (c.toNat - 48)) / 10 = val i by omega, ih, show 48 + (val i * 10 + (c.toNat - 48)) % 10 = c.toNat by omega]
    simp
/-! ### Numbers -/
def intF (s : List UInt8) : Int × Int :=
  let neg := s.head? = some 45
  let d := if neg then s.drop 1 else s
  if digB d = false ∨ (neg ∧ d = [48]) then (0, 4)
  else if neg then (if val d ≤ 9223372036854775808 then (-(val d : Int), 0) else (0, 17))
  else if val d < 9223372036854775808 then ((val d : Int), 0) else (0, 17)
theorem digB_head {d : List UInt8} (h : digB d = true) : d.head? ≠ some 45 ∧ d ≠ [] ∧ d.all isD = true := by
  unfold digB at h
  simp only [Bool.and_eq_true] at h
  obtain ⟨h1, h2, _⟩ := h
  cases d with
  | nil => simp at h2
  | cons a t =>
    refine ⟨?_, by simp, h1⟩
    simp only [List.all_cons, Bool.and_eq_true] at h1
    have := isD_iff.1 h1.1
    simp only [List.head?_cons, ne_eq, Option.some.injEq]
    rintro rfl
    exact absurd this.1 (by decide)
theorem int_itoa (n : Int) (h0 : -9223372036854775808 ≤ n) (h1 : n ≤ 9223372036854775807) : intF (Lib.itoa n) = (n, 0) := by
  unfold Lib.itoa
  split
  · rename_i hn
    have hv := digits_val n.natAbs
    have hd := digits_digB n.natAbs
    have hne : Lib.decDigits n.natAbs ≠ [48] := by
      intro e
      rw [e] at hv
      exact hv.2.2.2 (by omega) rfl
    unfold intF
    simp only [List.head?_cons, if_true, List.drop_succ_cons, List.drop_zero, hd, hne, and_false, or_false, hv.1]
    rw [if_neg (by decide), if_pos (by omega)]
    have : -((n.natAbs : Nat) : Int) = n := by omega
    rw [this]
  · have hv := digits_val n.toNat
    have hd := digits_digB n.toNat
    have hh := (digB_head hd).1
    unfold intF
    simp only [hh, if_false, hd, false_and, or_false, hv.1]
    rw [if_neg (by decide), if_pos (by omega)]
    have : ((n.toNat : Nat) : Int) = n := by omega
    rw [this]
theorem itoa_int {s : List UInt8} {n : Int} (h : intF s = (n, 0)) : Lib.itoa n = s ∧ -9223372036854775808 ≤ n ∧ n ≤ 9223372036854775807 := by
  unfold intF at h
  by_cases hn : s.head? = some 45
  · simp only [hn, if_true, true_and] at h
    obtain ⟨t, rfl⟩ : ∃ t, s = 45 :: t := by
      cases s with
      | nil => simp at hn
      | cons a t => simp at hn; exact ⟨t, by rw [hn]⟩
    simp only [List.drop_succ_cons, List.drop_zero] at h
    by_cases hb : digB t = false ∨ t = [48]
    · rw [if_pos hb] at h; simp at h
    · rw [if_neg hb] at h
      have hd : digB t = true := by cases hx : digB t <;> simp_all
      split at h
      · rename_i hv
        simp only [Prod.mk.injEq, and_true] at h
        subst h
        have e := digits_of_val _ t rfl hd
        have hpos : 1 ≤ val t := by
          rcases Nat.eq_zero_or_pos (val t) with hz | hz
          · rw [hz, Lib.decDigits_one (by omega)] at e
            exact absurd e.symm (fun x => hb (Or.inr x))
          · exact hz
        refine ⟨?_, by omega, by omega⟩
        unfold Lib.itoa
        rw [if_pos (by omega), Int.natAbs_neg, Int.natAbs_natCast, e]
      · simp at h
  · simp only [hn, if_false, false_and, or_false] at h
    by_cases hb : digB s = false
    · rw [if_pos hb] at h; simp at h
    · rw [if_neg hb] at h
      have hd : digB s = true := by cases hx : digB s <;> simp_all
      split at h
      · rename_i hv
        simp only [Prod.mk.injEq, and_true] at h
        subst h
        have e := digits_of_val _ s rfl hd
        refine ⟨?_, by omega, by omega⟩
        unfold Lib.itoa
        rw [if_neg (by omega), Int.toNat_natCast, e]
      · simp at h
/-! ### What strconv.Atoi gives for digits -/
theorem parse_nil (a : Nat) : Lib.parseUint10 a [] = .ok a := by rw [Lib.parseUint10]
theorem parse_digits (l : List UInt8) (a : Nat) (h : l.all isD = true) (ha : a < 18446744073709551616) : Lib.parseUint10 a l = if valA a l < 18446744073709551616 then .ok (valA a l) else .range := by
  induction l generalizing a with
  | nil => rw [parse_nil, valA_nil, if_pos ha]
  | cons c r ih =>
    simp only [List.all_cons, Bool.and_eq_true] at h
    have hc := isD_iff.1 h.1
    have hge := valA_ge r (a * 10 + (c.toNat - 48))
    rw [Lib.parseUint10, if_pos hc, valA_cons]
    by_cases h1 : 1844674407370955162 ≤ a
    · rw [if_pos h1, if_neg (by omega)]
    · rw [if_neg h1]
      by_cases h2 : 18446744073709551616 ≤ a * 10 + (c.toNat - 48)
      · rw [if_pos h2, if_neg (by omega)]
      · rw [if_neg h2, ih _ h.2 (by omega)]
theorem mag_digits {d : List UInt8} (h : digB d = true) : Lib.parseMag d = if val d < 18446744073709551616 then .ok (val d) else .range := by
  obtain ⟨_, h2, h3⟩ := digB_head h
  unfold Lib.parseMag
  rw [if_neg h2, parse_digits d 0 h3 (by omega)]
  rfl
/-- Digits behind a sign. -/
theorem atoi_neg {d : List UInt8} (h : digB d = true) : Lib.atoiAll (45 :: d) = if val d ≤ 9223372036854775808 then .ok (-(val d : Int)) else .range := by
  have e45 : (45 : UInt8).toNat = 45 := rfl
  unfold Lib.atoiAll
  simp only [e45, or_true, if_true, mag_digits h, not_true_eq_false, false_and, if_false, true_and]
  by_cases h1 : val d < 18446744073709551616
  · rw [if_pos h1]
    by_cases h2 : val d ≤ 9223372036854775808
    · rw [if_pos h2]
      simp only
      rw [if_neg (by omega)]
    · rw [if_neg h2]
      simp only
      rw [if_pos (by omega)]
  · rw [if_neg h1, if_neg (by omega)]
theorem atoi_pos {d : List UInt8} (h : digB d = true) : Lib.atoiAll d = if val d < 9223372036854775808 then .ok (val d : Int) else .range := by
  cases d with
  | nil => simp [digB] at h
  | cons c r =>
    have hm := mag_digits h
    have hc : 48 ≤ c.toNat ∧ c.toNat ≤ 57 := by
      have := (digB_head h).2.2
      simp only [List.all_cons, Bool.and_eq_true] at this
      exact isD_iff.1 this.1
    have h1 : ¬ c.toNat = 45 := by omega
    have h2 : ¬ c.toNat = 43 := by omega
    unfold Lib.atoiAll
    simp only [h1, h2, or_self, if_false, hm, not_false_eq_true, true_and, false_and]
    by_cases h1 : val (c :: r) < 18446744073709551616
    · rw [if_pos h1]
      by_cases h2 : val (c :: r) < 9223372036854775808
      · rw [if_pos h2]
        simp only
        rw [if_neg (by omega)]
      · rw [if_neg h2]
        simp only
        rw [if_pos (by omega)]
    · rw [if_neg h1, if_neg (by omega)]
/-! ### Names -/
/-! ### Lists -/
def listK (acc : List Int) : List (List UInt8) → List Int × Int
  | [] => (acc, 0)
  | p :: r => if (intF p).2 = 0 then listK (acc ++ [(intF p).1]) r else ([], (intF p).2)
def listF (s : List UInt8) : List Int × Int := if s = [45] then ([], 0) else listK [] (spl 44 s)
def fmtF (l : List Int) : List UInt8 := if l = [] then [45] else Lib.join (l.map Lib.itoa) [44]
def I64s (l : List Int) : Prop := ∀ n ∈ l, -9223372036854775808 ≤ n ∧ n ≤ 9223372036854775807
theorem listK_itoa : ∀ (l acc : List Int), I64s l → listK acc (l.map Lib.itoa) = (acc ++ l, 0)
  | [], acc, _ => by simp [listK]
  | n :: r, acc, h => by
    have hn := h n (by simp)
    rw [List.map_cons, listK, int_itoa n hn.1 hn.2, if_pos rfl, listK_itoa r _ (fun m hm => h m (by simp [hm]))]
    simp
theorem itoa_chars (n : Int) : (∀ c ∈ Lib.itoa n, isD c = true ∨ c = 45) ∧ Lib.itoa n ≠ [] ∧ Lib.itoa n ≠ [45] := by
  unfold Lib.itoa
  split
  · obtain ⟨_, h2, h3, _⟩ := digits_val n.natAbs
    refine ⟨fun c hc => ?_, by simp, fun h => h3 (by simpa using h)⟩
    simp only [List.mem_cons] at hc
    rcases hc with rfl | hc
    · exact .inr rfl
    · exact .inl (List.all_eq_true.1 h2 c hc)
  · obtain ⟨_, h2, h3, _⟩ := digits_val n.toNat
    refine ⟨fun c hc => .inl (List.all_eq_true.1 h2 c hc), h3, fun h => ?_⟩
    rw [h] at h2
    exact absurd h2 (by decide)
theorem itoa_no (n : Int) (c : UInt8) (h1 : isD c = false) (h2 : c ≠ 45) : c ∉ Lib.itoa n := by
  intro h
  rcases (itoa_chars n).1 c h with h3 | h3
  · rw [h1] at h3; cases h3
  · exact h2 h3
theorem join_ne45 (l : List Int) (h : l ≠ []) : Lib.join (l.map Lib.itoa) [44] ≠ [45] := by
  cases l with
  | nil => exact absurd rfl h
  | cons n r =>
    rw [List.map_cons, Lib.join_cons]
    obtain ⟨_, h2, h3⟩ := itoa_chars n
    intro e
    cases hi : Lib.itoa n with
    | nil => exact h2 hi
    | cons a t =>
      rw [hi] at e h3
      simp only [List.cons_append, List.cons.injEq, List.append_eq_nil_iff] at e
      exact h3 (by rw [e.1, e.2.1])
theorem list_fmt (l : List Int) (h : I64s l) : listF (fmtF l) = (l, 0) := by
  unfold fmtF
  by_cases hl : l = []
  · subst hl; simp [listF]
  · rw [if_neg hl]
    unfold listF
    rw [if_neg (join_ne45 l hl), spl_join 44 _ (by simpa using hl) (fun w hw => by
      obtain ⟨n, _, rfl⟩ := List.mem_map.1 hw
      exact itoa_no n 44 (by decide) (by decide)), listK_itoa l [] h]
    simp
theorem listK_ok : ∀ (ps : List (List UInt8)) (acc a : List Int), listK acc ps = (a, 0) → ∃ b, a = acc ++ b ∧ b.map Lib.itoa = ps ∧ I64s b
  | [], acc, a, h => by
    simp [listK] at h
    exact ⟨[], by simp [h], rfl, fun n hn => by simp at hn⟩
  | p :: r, acc, a, h => by
    rw [listK] at h
    split at h
    · rename_i h0
      obtain ⟨b, h1, h2, h3⟩ := listK_ok r _ a h
      obtain ⟨e1, e2, e3⟩ := itoa_int (s := p) (n := (intF p).1) (by rw [← h0])
      refine ⟨(intF p).1 :: b, by simp [h1], by rw [List.map_cons, e1, h2], fun n hn => ?_⟩
      simp only [List.mem_cons] at hn
      rcases hn with rfl | hn
      · exact ⟨e2, e3⟩
      · exact h3 n hn
    · rename_i h0
      simp only [Prod.mk.injEq] at h
      exact absurd h.2 h0
theorem fmt_list {s : List UInt8} {a : List Int} (h : listF s = (a, 0)) : fmtF a = s ∧ I64s a := by
  unfold listF at h
  split at h
  · rename_i hs
    simp at h
    subst h
    exact ⟨by simp [fmtF, hs], fun n hn => by simp at hn⟩
  · obtain ⟨b, h1, h2, h3⟩ := listK_ok _ _ _ h
    simp at h1
    subst h1
    refine ⟨?_, h3⟩
    have hne : a ≠ [] := by
      rintro rfl
      exact spl_ne 44 s h2.symm
    unfold fmtF
    rw [if_neg hne, h2, join_spl]
end Go.Proofs.YtlblfblkallnhaaGreatDoor
