/- The plain laws of lines, words, numbers, names and lists: over lists of bytes, no program in sight. The plain laws of numbers and lists of numbers as texts. Plain laws of layouts: what the checks, the printing and the reading compute. No program in sight. Plain laws of layouts: a layout is restored from its text, a text is that of its layout, and where the first wrong line is. Plain laws of layouts: a text that is accepted is that of its layout; where the first wrong line is; how many lines there are. Plain laws of layouts: a layout that is right, of few parts, has a text. Plain laws for the reading of one line: the values, as they are filled in. -/
import Derived.Lib.SplitLaws
import Derived.Lib.Join
import Derived.Lib.ItoaLen
import Derived.Lib.AtoiAll
namespace Go.Proofs.YtopoknocfoiiaaaGreatDoor
set_option linter.unusedVariables false
set_option linter.unusedSimpArgs false
open Go
/-! ### Splitting at a byte -/
/-- The parts of a text between the bytes c. -/
def spl (c : UInt8) : List UInt8 → List (List UInt8)
  | [] => [[]]
  | x :: r => if x = c then [] :: spl c r else (x :: (spl c r).headD []) :: (spl c r).tail
theorem spl_ne (c : UInt8) (l : List UInt8) : spl c l ≠ [] := by
  cases l with
  | nil => simp [spl]
  | cons x r => unfold spl; split <;> simp
theorem spl_eta (c : UInt8) (l : List UInt8) : (spl c l).headD [] :: (spl c l).tail = spl c l := by
  have := spl_ne c l
  cases h : spl c l with
  | nil => exact absurd h this
  | cons a t => rfl
theorem spl_no {c : UInt8} : ∀ {l : List UInt8}, c ∉ l → spl c l = [l]
  | [], _ => rfl
  | x :: r, h => by
    have h1 : ¬ x = c := fun e => h (by simp [e])
    have h2 : c ∉ r := fun e => h (by simp [e])
    unfold spl
    rw [if_neg h1, spl_no h2]
    rfl
theorem spl_cut {c : UInt8} : ∀ {a : List UInt8} (b : List UInt8), c ∉ a → spl c (a ++ c :: b) = a :: spl c b
  | [], b, _ => by simp [spl]
  | x :: r, b, h => by
    have h1 : ¬ x = c := fun e => h (by simp [e])
    have h2 : c ∉ r := fun e => h (by simp [e])
    rw [List.cons_append, spl, if_neg h1, spl_cut b h2]
    rfl
theorem at_or (c : UInt8) : ∀ l : List UInt8, c ∉ l ∨ ∃ a b, l = a ++ c :: b ∧ c ∉ a
  | [] => .inl (by simp)
  | x :: r => by
    by_cases h : x = c
    · exact .inr ⟨[], r, by simp [h], by simp⟩
    · rcases at_or c r with h1 | ⟨a, b, h1, h2⟩
      · exact .inl (by simp [h1]; exact fun e => h e.symm)
      · exact .inr ⟨x :: a, b, by simp [h1], by simp [h2]; exact fun e => h e.symm⟩
theorem join_spl (c : UInt8) (l : List UInt8) : Lib.join (spl c l) [c] = l := by
  induction l with
  | nil => simp [spl, Lib.join_one]
  | cons x r ih =>
    unfold spl
    split
    · rename_i h
      subst h
      have hne := spl_ne x r
      cases hs : spl x r with
      | nil => exact absurd hs hne
      | cons a t =>
        rw [hs, Lib.join_cons] at ih
        rw [Lib.join_cons]
        simp only [Lib.joinTail, List.map_cons, List.flatten_cons] at ih ⊢
        conv => rhs; rw [← ih]
        simp
    · have hne := spl_ne c r
      cases hs : spl c r with
      | nil => exact absurd hs hne
      | cons a t =>
        rw [hs, Lib.join_cons] at ih
        simp only [List.headD_cons, List.tail_cons, Lib.join_cons, List.cons_append]
        rw [ih]
theorem spl_join (c : UInt8) : ∀ (ws : List (List UInt8)), ws ≠ [] → (∀ w ∈ ws, c ∉ w) → spl c (Lib.join ws [c]) = ws
  | [], h, _ => absurd rfl h
  | [w], _, h => by rw [Lib.join_one]; exact spl_no (h w (by simp))
  | w :: v :: r, _, h => by
    rw [Lib.join_cons]
    have e : Lib.joinTail [c] (v :: r) = c :: Lib.join (v :: r) [c] := by rw [Lib.join_cons]; simp [Lib.joinTail]
    rw [e, spl_cut _ (h w (by simp)), spl_join c (v :: r) (by simp) (fun u hu => h u (by simp [hu]))]
/-! ### What the library's functions compute at a separator of one byte -/
theorem index_one (c : UInt8) : ∀ l : List UInt8, (c ∉ l → Lib.index l [c] = -1) ∧ ∀ a b, l = a ++ c :: b → c ∉ a → Lib.index l [c] = (a.length : Int)
  | [] => ⟨fun _ => by simp [Lib.index], fun a b h => by simp at h⟩
  | x :: r => by
    have hix : Lib.index (x :: r) [c] = if ([c] : List UInt8).isPrefixOf (x :: r) then 0 else if Lib.index r [c] == -1 then -1 else Lib.index r [c] + 1 := by rw [Lib.index]
    have ih := index_one c r
    refine ⟨fun h => ?_, fun a b h ha => ?_⟩
    · have h1 : ¬ x = c := fun e => h (by simp [e])
      rw [hix, if_neg (by simp [List.isPrefixOf]; exact fun e => h1 e.symm), ih.1 (fun e => h (by simp [e]))]
      rfl
    · cases a with
      | nil =>
        simp at h
        rw [hix, if_pos (by simp [List.isPrefixOf, h.1])]
        rfl
      | cons y a =>
        simp only [List.cons_append, List.cons.injEq] at h
        obtain ⟨rfl, h⟩ := h
        have h1 : ¬ x = c := fun e => ha (by simp [e])
        rw [hix, if_neg (by simp [List.isPrefixOf]; exact fun e => h1 e.symm), ih.2 a b h (fun e => ha (by simp [e])), if_neg (by simp)]
        simp
theorem contains_one (c : UInt8) (l : List UInt8) : Lib.contains l [c] = decide (c ∈ l) := by
  unfold Lib.contains
  rcases at_or c l with h | ⟨a, b, h, ha⟩
  · rw [(index_one c l).1 h]; simp [h]
  · rw [(index_one c l).2 a b h ha]
    have : c ∈ l := by rw [h]; simp
    simp [this]
theorem cut_no {c : UInt8} {l : List UInt8} (h : c ∉ l) : Lib.cut l [c] = (l, [], false) := by
  unfold Lib.cut
  rw [(index_one c l).1 h, if_neg (by decide)]
theorem cut_at {c : UInt8} {a b : List UInt8} (h : c ∉ a) : Lib.cut (a ++ c :: b) [c] = (a, b, true) := by
  unfold Lib.cut
  rw [(index_one c _).2 a b rfl h, if_pos (by omega)]
  simp
theorem splitK_spl (c : UInt8) : ∀ (k : Nat) (l : List UInt8), l.length ≤ k → Lib.splitK [c] 0 (Lib.count l [c]) l = spl c l := by
  intro k
  induction k with
  | zero =>
    intro l hl
    obtain rfl : l = [] := List.eq_nil_of_length_eq_zero (by omega)
    rw [Lib.count_miss ((index_one c []).1 (by simp))]
    rfl
  | succ k ih =>
    intro l hl
    rcases at_or c l with h | ⟨a, b, h, ha⟩
    · rw [Lib.count_miss ((index_one c l).1 h), spl_no h]
      rfl
    · have hi := (index_one c l).2 a b h ha
      have hd : l.drop (a.length + ([c] : List UInt8).length) = b := by rw [h]; simp
      have hl' : l.length = a.length + b.length + 1 := by rw [h]; simp; omega
      rw [Lib.count_hit (by simp) hi, hd, Nat.add_comm, Lib.splitK, hi, if_neg (by simp)]
      simp only [Int.toNat_natCast]
      rw [hd, ih b (by omega)]
      conv => rhs; rw [h, spl_cut b ha]
      rw [h]
      simp
/-! ### Words and lines -/
/-- Is a byte one of a word? -/
def chB (c : UInt8) : Bool := decide (33 ≤ c.toNat) && decide (c.toNat ≤ 126)
def wordB (w : List UInt8) : Bool := w.all chB && (decide (1 ≤ w.length) && decide (w.length ≤ 64))
/-- The look at a line, rune by rune: n is the length of the word so far. -/
def lnB : Nat → List UInt8 → Bool
  | n, [] => decide (0 < n)
  | n, c :: r => if c.toNat = 32 ∧ 0 < n then lnB 0 r else if (33 ≤ c.toNat ∧ c.toNat ≤ 126) ∧ n < 64 then lnB (n + 1) r else false
theorem lnB_gen : ∀ (l p : List UInt8), p.all chB = true → p.length ≤ 64 → lnB p.length l = ((p ++ (spl 32 l).headD []) :: (spl 32 l).tail).all wordB
  | [], p, hp, hl => by
    simp only [lnB, spl, List.headD_cons, List.tail_cons, List.append_nil, List.all_cons, List.all_nil, Bool.and_true, wordB, hp, Bool.true_and]
    rw [decide_eq_true hl, Bool.and_true]
    rfl
  | c :: r, p, hp, hl => by
    have eta := spl_eta 32 r
    by_cases h32 : c = 32
    · subst h32
      have ih := lnB_gen r [] (by simp) (by simp)
      simp only [List.length_nil, List.nil_append] at ih
      rw [eta] at ih
      have e32 : (32 : UInt8).toNat = 32 := rfl
      rw [lnB, spl, if_pos rfl]
      simp only [List.headD_cons, List.tail_cons, List.append_nil, List.all_cons]
      by_cases hz : 0 < p.length
      · rw [if_pos ⟨e32, hz⟩, ih]
        have : wordB p = true := by unfold wordB; rw [hp, decide_eq_true hl, decide_eq_true (show 1 ≤ p.length from hz)]; rfl
        rw [this, Bool.true_and]
      · rw [if_neg (fun h => hz h.2), if_neg (fun h => by rw [e32] at h; omega)]
        have : wordB p = false := by unfold wordB; rw [decide_eq_false (show ¬ 1 ≤ p.length from hz)]; simp
        rw [this, Bool.false_and]
    · have hn : ¬ (c.toNat = 32 ∧ 0 < p.length) := fun h => h32 (UInt8.toNat_inj.1 h.1)
      rw [lnB, if_neg hn, spl, if_neg h32]
      simp only [List.headD_cons, List.tail_cons]
      by_cases hc : (33 ≤ c.toNat ∧ c.toNat ≤ 126) ∧ p.length < 64
      · have ih := lnB_gen r (p ++ [c]) (by simp only [List.all_append, hp, List.all_cons, List.all_nil, chB, hc.1.1, hc.1.2]; rfl) (by simp; omega)
        rw [if_pos hc]
        simp only [List.length_append, List.length_cons, List.length_nil, List.append_assoc, List.cons_append, List.nil_append] at ih
        exact ih
      · rw [if_neg hc]
        have : wordB (p ++ c :: (spl 32 r).headD []) = false := by
          unfold wordB
          by_cases h1 : 33 ≤ c.toNat ∧ c.toNat ≤ 126
          · have : ¬ (p ++ c :: (spl 32 r).headD []).length ≤ 64 := by simp; omega
            rw [decide_eq_false this]; simp
          · have : chB c = false := by
              unfold chB
              by_cases h2 : 33 ≤ c.toNat
              · rw [decide_eq_false (show ¬ c.toNat ≤ 126 by omega)]; simp
              · rw [decide_eq_false h2]; rfl
            simp [this]
        rw [List.all_cons, this, Bool.false_and]
theorem lnB_words (l : List UInt8) : lnB 0 l = (spl 32 l).all wordB := by
  have h := lnB_gen l [] (by simp) (by simp)
  simp only [List.length_nil, List.nil_append] at h
  rw [spl_eta] at h
  exact h
theorem wordB_no {w : List UInt8} (h : wordB w = true) {c : UInt8} (hc : chB c = false) : c ∉ w := by
  intro hm
  unfold wordB at h
  simp only [Bool.and_eq_true, List.all_eq_true] at h
  rw [h.1 c hm] at hc
  cases hc
theorem wordB_len {w : List UInt8} (h : wordB w = true) : 1 ≤ w.length ∧ w.length ≤ 64 := by
  unfold wordB at h
  simp only [Bool.and_eq_true, decide_eq_true_eq] at h
  exact h.2
theorem word_line (w : List UInt8) : wordB w = (lnB 0 w && !Lib.contains w [32]) := by
  rw [lnB_words, contains_one]
  by_cases h : (32 : UInt8) ∈ w
  · have h1 : wordB w = false := by
      cases hw : wordB w with
      | false => rfl
      | true => exact absurd h (wordB_no hw (by decide))
    simp [h, h1]
  · rw [spl_no h]; simp [h]
/-! ### Lines -/
abbrev Lns := List (List (List UInt8))
/-- How a text is read: what was read, the words of the line so far, the word so far, and what is left. -/
def scan (out : Lns) (line : List (List UInt8)) (cur : List UInt8) : List UInt8 → Lns × Nat × Int
  | [] => if cur = [] ∧ line = [] then (out, 0, 0) else ([], out.length + 1, 4)
  | c :: r =>
    if c = 32 ∨ c = 10 then
      if wordB cur then (if c = 10 then scan (out ++ [line ++ [cur]]) [] [] r else scan out (line ++ [cur]) [] r)
      else ([], out.length + 1, 4)
    else scan out line (cur ++ [c]) r
def linesF (s : List UInt8) : Lns × Nat × Int := if 32768 < s.length then ([], 0, 2) else scan [] [] [] s
theorem scan_line (out : Lns) (rest : List UInt8) : ∀ (l : List UInt8) (l0 : List (List UInt8)) (cur : List UInt8), (10 : UInt8) ∉ l →
    scan out l0 cur (l ++ 10 :: rest) = if ((cur ++ (spl 32 l).headD []) :: (spl 32 l).tail).all wordB then scan (out ++ [l0 ++ ((cur ++ (spl 32 l).headD []) :: (spl 32 l).tail)]) [] [] rest else ([], out.length + 1, 4)
  | [], l0, cur, _ => by
    simp only [List.nil_append, scan, or_true, if_true, spl, List.headD_cons, List.tail_cons, List.append_nil, List.all_cons, List.all_nil, Bool.and_true]
  | c :: r, l0, cur, h => by
    have h1 : ¬ c = 10 := fun e => h (by simp [e])
    have h2 : (10 : UInt8) ∉ r := fun e => h (by simp [e])
    rw [List.cons_append, scan]
    by_cases h32 : c = 32
    · subst h32
      rw [if_pos (Or.inl rfl), spl, if_pos rfl]
      simp only [List.headD_cons, List.tail_cons, List.append_nil, List.all_cons]
      by_cases hw : wordB cur = true
      · rw [if_pos hw, if_neg h1, scan_line out rest r _ _ h2, List.nil_append, spl_eta, hw, Bool.true_and]
        simp only [List.append_assoc, List.cons_append, List.nil_append]
      · rw [if_neg hw]
        have hw' : wordB cur = false := by simpa using hw
        rw [hw', Bool.false_and, if_neg (by simp)]
    · rw [if_neg (by simp [h32, h1]), scan_line out rest r _ _ h2, spl, if_neg h32]
      simp only [List.headD_cons, List.tail_cons, List.append_assoc, List.cons_append, List.nil_append]
      rfl
theorem scan_last (out : Lns) : ∀ (l : List UInt8) (l0 : List (List UInt8)) (cur : List UInt8), (10 : UInt8) ∉ l →
    scan out l0 cur l = if (cur = [] ∧ l0 = []) ∧ l = [] then (out, 0, 0) else ([], out.length + 1, 4)
  | [], l0, cur, _ => by simp [scan]
  | c :: r, l0, cur, h => by
    have h1 : ¬ c = 10 := fun e => h (by simp [e])
    have h2 : (10 : UInt8) ∉ r := fun e => h (by simp [e])
    rw [scan]
    by_cases h32 : c = 32
    · rw [if_pos (Or.inl h32), if_neg h1, scan_last out r _ _ h2]
      simp
    · rw [if_neg (by simp [h32, h1]), scan_last out r _ _ h2]
      simp
/-- A whole line. -/
theorem scan_cut (out : Lns) (l rest : List UInt8) (h : (10 : UInt8) ∉ l) : scan out [] [] (l ++ 10 :: rest) = if lnB 0 l then scan (out ++ [spl 32 l]) [] [] rest else ([], out.length + 1, 4) := by
  rw [scan_line out rest l [] [] h, List.nil_append, spl_eta, lnB_words, List.nil_append]
theorem scan_end (out : Lns) (l : List UInt8) (h : (10 : UInt8) ∉ l) (hne : l ≠ []) : scan out [] [] l = ([], out.length + 1, 4) := by
  rw [scan_last out l [] [] h, if_neg (fun e => hne e.2)]
/-! ### Texts -/
def lineT (ws : List (List UInt8)) : List UInt8 := Lib.join ws [32] ++ [10]
def textOf (ls : Lns) : List UInt8 := (ls.map lineT).flatten
def goodL (l : List (List UInt8)) : Bool := !l.isEmpty && l.all wordB
def joinF (ls : Lns) : List UInt8 × Int := if ls.all goodL then (if 32768 < (textOf ls).length then ([], 2) else (textOf ls, 0)) else ([], 1)
theorem goodL_iff {l : List (List UInt8)} : goodL l = true ↔ l ≠ [] ∧ ∀ w ∈ l, wordB w = true := by
  unfold goodL
  cases l <;> simp
theorem join_no10 {l : List (List UInt8)} (h : ∀ w ∈ l, wordB w = true) : (10 : UInt8) ∉ Lib.join l [32] := by
  cases l with
  | nil => simp [Lib.join_nil]
  | cons x r =>
    rw [Lib.join_cons]
    intro hm
    rw [List.mem_append] at hm
    rcases hm with hm | hm
    · exact wordB_no (h x (by simp)) (by decide) hm
    · unfold Lib.joinTail at hm
      rw [List.mem_flatten] at hm
      obtain ⟨y, hy, hm⟩ := hm
      rw [List.mem_map] at hy
      obtain ⟨u, hu, rfl⟩ := hy
      simp only [List.cons_append, List.nil_append, List.mem_cons] at hm
      rcases hm with hm | hm
      · exact absurd hm (by decide)
      · exact wordB_no (h u (by simp [hu])) (by decide) hm
theorem spl_line {l : List (List UInt8)} (h : goodL l = true) : spl 32 (Lib.join l [32]) = l ∧ lnB 0 (Lib.join l [32]) = true ∧ (10 : UInt8) ∉ Lib.join l [32] := by
  obtain ⟨h1, h2⟩ := goodL_iff.1 h
  have e := spl_join 32 l h1 (fun w hw => wordB_no (h2 w hw) (by decide))
  refine ⟨e, ?_, join_no10 h2⟩
  rw [lnB_words, e]
  simpa using h2
theorem scan_text : ∀ (ls out : Lns) (rest : List UInt8), ls.all goodL = true → scan out [] [] (textOf ls ++ rest) = scan (out ++ ls) [] [] rest
  | [], out, rest, _ => by simp [textOf]
  | l :: ls, out, rest, h => by
    simp only [List.all_cons, Bool.and_eq_true] at h
    obtain ⟨e1, e2, e3⟩ := spl_line h.1
    have : textOf (l :: ls) ++ rest = Lib.join l [32] ++ 10 :: (textOf ls ++ rest) := by simp [textOf, lineT]
    rw [this, scan_cut _ _ _ e3, if_pos e2, e1, scan_text ls _ _ h.2]
    simp
theorem scan_text0 (ls out : Lns) (h : ls.all goodL = true) : scan out [] [] (textOf ls) = (out ++ ls, 0, 0) := by
  have := scan_text ls out [] h
  rw [List.append_nil] at this
  rw [this]
  rfl
/-- Lines are restored from their text. -/
theorem lines_join {ls : Lns} {t : List UInt8} (h : joinF ls = (t, 0)) : linesF t = (ls, 0, 0) := by
  unfold joinF at h
  split at h
  · rename_i hg
    split at h
    · simp at h
    · rename_i hl
      simp only [Prod.mk.injEq, and_true] at h
      subst h
      unfold linesF
      rw [if_neg hl, scan_text0 _ _ hg]
      simp
  · simp at h
theorem scan_ok : ∀ (k : Nat) (s : List UInt8) (out m : Lns) (n : Nat), s.length ≤ k → scan out [] [] s = (m, n, 0) → ∃ ls : Lns, m = out ++ ls ∧ ls.all goodL = true ∧ s = textOf ls ∧ n = 0
  | 0, s, out, m, n, hl, h => by
    obtain rfl : s = [] := List.eq_nil_of_length_eq_zero (by omega)
    simp [scan] at h
    exact ⟨[], by simp [h.1], rfl, rfl, by simp [h.2]⟩
  | k + 1, s, out, m, n, hl, h => by
    rcases at_or 10 s with h1 | ⟨a, b, rfl, h1⟩
    · by_cases hs : s = []
      · subst hs
        simp [scan] at h
        exact ⟨[], by simp [h.1], rfl, rfl, by simp [h.2]⟩
      · rw [scan_end _ _ h1 hs] at h
        simp at h
    · rw [scan_cut _ _ _ h1] at h
      split at h
      · rename_i hg
        obtain ⟨ls, e1, e2, e3, e4⟩ := scan_ok k b _ m n (by simp at hl; omega) h
        refine ⟨spl 32 a :: ls, by simp [e1], ?_, ?_, e4⟩
        · rw [List.all_cons, e2, Bool.and_true]
          rw [lnB_words] at hg
          exact goodL_iff.2 ⟨spl_ne _ _, by simpa using hg⟩
        · rw [e3]
          simp [textOf, lineT, join_spl]
      · simp at h
theorem lines_ok {s : List UInt8} {m : Lns} {n : Nat} (h : linesF s = (m, n, 0)) : m.all goodL = true ∧ s = textOf m ∧ n = 0 ∧ s.length ≤ 32768 := by
  unfold linesF at h
  split at h
  · simp at h
  · rename_i hl
    obtain ⟨ls, e1, e2, e3, e4⟩ := scan_ok s.length s _ m n (Nat.le_refl _) h
    simp only [List.nil_append] at e1
    subst e1
    exact ⟨e2, e3, e4, by omega⟩
/-- A text that is accepted is the text of its lines. -/
theorem join_lines {s : List UInt8} {m : Lns} {n : Nat} (h : linesF s = (m, n, 0)) : joinF m = (s, 0) := by
  obtain ⟨h1, h2, h3, h4⟩ := lines_ok h
  unfold joinF
  rw [if_pos h1, if_neg (by rw [← h2]; omega), ← h2]
theorem scan_code (out : Lns) : ∀ (l : List UInt8) (l0 : List (List UInt8)) (cur : List UInt8), (scan out l0 cur l).2.2 = 0 ∨ (scan out l0 cur l).2.2 = 4 := by
  intro l
  induction l generalizing out with
  | nil => intro l0 cur; unfold scan; split <;> simp
  | cons c r ih =>
    intro l0 cur
    unfold scan
    split
    · split
      · split
        · exact ih _ _ _
        · exact ih _ _ _
      · simp
    · exact ih _ _ _
end Go.Proofs.YtopoknocfoiiaaaGreatDoor
namespace Go.Proofs.YtopoknocfoiiaaaGreatDoor
set_option linter.unusedVariables false
set_option linter.unusedSimpArgs false
open Go
/-! ### Digits -/
def isD (c : UInt8) : Bool := decide (48 ≤ c.toNat) && decide (c.toNat ≤ 57)
theorem isD_iff {c : UInt8} : isD c = true ↔ 48 ≤ c.toNat ∧ c.toNat ≤ 57 := by simp [isD]
/-- Digits without leading zeros. -/
def digB (l : List UInt8) : Bool := l.all isD && (!l.isEmpty && (decide (l.head? ≠ some 48) || decide (l.length = 1)))
/-- What digits represent, behind a number. -/
def valA (a : Nat) (l : List UInt8) : Nat := l.foldl (fun x c => x * 10 + (c.toNat - 48)) a
theorem valA_nil (a : Nat) : valA a [] = a := by unfold valA; rw [List.foldl_nil]
theorem valA_cons (a : Nat) (c : UInt8) (r : List UInt8) : valA a (c :: r) = valA (a * 10 + (c.toNat - 48)) r := by unfold valA; rw [List.foldl_cons]
theorem val_one (c : UInt8) : valA 0 [c] = c.toNat - 48 := by rw [valA_cons, valA_nil]; omega
def val (l : List UInt8) : Nat := valA 0 l
theorem valA_ge (l : List UInt8) (a : Nat) : a ≤ valA a l := by
  induction l generalizing a with
  | nil => rw [valA_nil]; exact Nat.le_refl _
  | cons c r ih =>
    have := ih (a * 10 + (c.toNat - 48))
    rw [valA_cons]
    omega
theorem valA_append (l m : List UInt8) (a : Nat) : valA a (l ++ m) = valA (valA a l) m := by
  unfold valA
  rw [List.foldl_append]
theorem valA_snoc (l : List UInt8) (a : Nat) (c : UInt8) : valA a (l ++ [c]) = valA a l * 10 + (c.toNat - 48) := by
  rw [valA_append, valA_cons, valA_nil]
theorem val_snoc (l : List UInt8) (c : UInt8) : val (l ++ [c]) = val l * 10 + (c.toNat - 48) := valA_snoc l 0 c
theorem val_take_le (l : List UInt8) (k : Nat) : val (l.take k) ≤ val l := by
  have h : val l = valA (val (l.take k)) (l.drop k) := by
    unfold val
    rw [← valA_append, List.take_append_drop]
  rw [h]
  exact valA_ge _ _
theorem u8n (n : Nat) (h : n < 256) : (UInt8.ofNat n).toNat = n := by simp; omega
theorem digits_val (u : Nat) : val (Lib.decDigits u) = u ∧ (Lib.decDigits u).all isD = true ∧ Lib.decDigits u ≠ [] ∧ (u ≠ 0 → (Lib.decDigits u).head? ≠ some 48) := by
  induction u using Nat.strongRecOn with
  | ind u ih =>
    rw [Lib.decDigits]
    by_cases h : u < 10
    · rw [dif_pos h]
      have e := u8n (48 + u) (by omega)
      refine ⟨?_, ?_, by simp, fun hz => ?_⟩
      · show valA 0 _ = u
        rw [val_one, e]; omega
      · simp [isD, e]; omega
      · simp only [List.head?_cons, ne_eq, Option.some.injEq]
        intro hh
        have := congrArg UInt8.toNat hh
        rw [e] at this
        have e48 : (48 : UInt8).toNat = 48 := rfl
        rw [e48] at this
        omega
    · rw [dif_neg h]
      obtain ⟨h1, h2, h3, h4⟩ := ih (u / 10) (by omega)
      have e := u8n (48 + u % 10) (by omega)
      refine ⟨?_, ?_, by simp, fun hz => ?_⟩
      · rw [val_snoc, h1, e]; omega
      · rw [List.all_append, h2]; simp [isD, e]; omega
      · have := h4 (by omega)
        cases hd : Lib.decDigits (u / 10) with
        | nil => exact absurd hd h3
        | cons a t => rw [hd] at this; simpa using this
theorem digits_digB (u : Nat) : digB (Lib.decDigits u) = true := by
  obtain ⟨_, h2, h3, h4⟩ := digits_val u
  unfold digB
  rw [h2]
  by_cases hz : u = 0
  · subst hz
    rw [Lib.decDigits_one (by omega)]
    rfl
  · have := h4 hz
    have h5 : (Lib.decDigits u).isEmpty = false := by simpa using h3
    simp [h5, this]
theorem digits_of_val : ∀ (k : Nat) (l : List UInt8), l.length = k → digB l = true → Lib.decDigits (val l) = l
  | 0, l, hk, h => by
    obtain rfl : l = [] := List.eq_nil_of_length_eq_zero hk
    simp [digB] at h
  | 1, l, hk, h => by
    match l, hk with
    | [c], _ =>
      unfold digB at h
      simp only [List.all_cons, List.all_nil, Bool.and_true, Bool.and_eq_true] at h
      have hc := isD_iff.1 h.1
      have e : val [c] = c.toNat - 48 := val_one c
      rw [e, Lib.decDigits_one (by omega), show 48 + (c.toNat - 48) = c.toNat by omega]
      simp
  | k + 2, l, hk, h => by
    have hne : l ≠ [] := by intro e; subst e; simp at hk
    obtain ⟨i, c, rfl⟩ : ∃ i c, l = i ++ [c] := ⟨l.dropLast, l.getLast hne, (List.dropLast_concat_getLast hne).symm⟩
    simp at hk
    have hi : digB i = true := by
      unfold digB at h ⊢
      simp only [List.all_append, Bool.and_eq_true] at h
      obtain ⟨⟨h1, h2⟩, h3, h4⟩ := h
      rw [h1]
      cases i with
      | nil => simp at hk
      | cons a t =>
        simp only [List.cons_append, List.head?_cons, List.length_cons, List.length_append, List.length_nil] at h4
        simp at h4
        simp [h4]
    have ih := digits_of_val (k + 1) i hk hi
    have hc : 48 ≤ c.toNat ∧ c.toNat ≤ 57 := by
      unfold digB at h
      simp only [List.all_append, Bool.and_eq_true, List.all_cons] at h
      exact isD_iff.1 h.1.2.1
    have hv : 1 ≤ val i := by
      cases i with
      | nil => simp at hk
      | cons a t =>
        unfold digB at h
        simp only [List.cons_append, List.all_cons, Bool.and_eq_true, List.head?_cons, List.length_cons, List.length_append, List.length_nil] at h
        obtain ⟨⟨h1, _⟩, _, h4⟩ := h
        have h1 := isD_iff.1 h1
        have h5 : a ≠ 48 := by simpa using h4
        have h6 : a.toNat ≠ 48 := fun e => h5 (UInt8.toNat_inj.1 e)
        unfold val
        rw [valA_cons]
        have := valA_ge t (0 * 10 + (a.toNat - 48))
        omega
    rw [val_snoc, Lib.decDigits, dif_neg (by omega), show (val i * 10 + (c.toNat - 48)) / 10 = val i by omega, ih, show 48 + (val i * 10 + (c.toNat - 48)) % 10 = c.toNat by omega]
    simp
/-! ### Numbers -/
def intF (s : List UInt8) : Int × Int :=
  let neg := s.head? = some 45
  let d := if neg then s.drop 1 else s
  if digB d = false ∨ (neg ∧ d = [48]) then (0, 4)
  else if neg then (if val d ≤ 9223372036854775808 then (-(val d : Int), 0) else (0, 17))
  else if val d < 9223372036854775808 then ((val d : Int), 0) else (0, 17)
theorem digB_head {d : List UInt8} (h : digB d = true) : d.head? ≠ some 45 ∧ d ≠ [] ∧ d.all isD = true := by
  unfold digB at h
  simp only [Bool.and_eq_true] at h
  obtain ⟨h1, h2, _⟩ := h
  cases d with
  | nil => simp at h2
  | cons a t =>
    refine ⟨?_, by simp, h1⟩
    simp only [List.all_cons, Bool.and_eq_true] at h1
    have := isD_iff.1 h1.1
    simp only [List.head?_cons, ne_eq, Option.some.injEq]
    rintro rfl
    exact absurd this.1 (by decide)
theorem int_itoa (n : Int) (h0 : -9223372036854775808 ≤ n) (h1 : n ≤ 9223372036854775807) : intF (Lib.itoa n) = (n, 0) := by
  unfold Lib.itoa
  split
  · rename_i hn
    have hv := digits_val n.natAbs
    have hd := digits_digB n.natAbs
    have hne : Lib.decDigits n.natAbs ≠ [48] := by
      intro e
      rw [e] at hv
      exact hv.2.2.2 (by omega) rfl
    unfold intF
    simp only [List.head?_cons, if_true, List.drop_succ_cons, List.drop_zero, hd, hne, and_false, or_false, hv.1]
    rw [if_neg (by decide), if_pos (by omega)]
    have : -((n.natAbs : Nat) : Int) = n := by omega
    rw [this]
  · have hv := digits_val n.toNat
    have hd := digits_digB n.toNat
    have hh := (digB_head hd).1
    unfold intF
    simp only [hh, if_false, hd, false_and, or_false, hv.1]
    rw [if_neg (by decide), if_pos (by omega)]
    have : ((n.toNat : Nat) : Int) = n := by omega
    rw [this]
theorem itoa_int {s : List UInt8} {n : Int} (h : intF s = (n, 0)) : Lib.itoa n = s ∧ -9223372036854775808 ≤ n ∧ n ≤ 9223372036854775807 := by
  unfold intF at h
  by_cases hn : s.head? = some 45
  · simp only [hn, if_true, true_and] at h
    obtain ⟨t, rfl⟩ : ∃ t, s = 45 :: t := by
      cases s with
      | nil => simp at hn
      | cons a t => simp at hn; exact ⟨t, by rw [hn]⟩
    simp only [List.drop_succ_cons, List.drop_zero] at h
    by_cases hb : digB t = false ∨ t = [48]
    · rw [if_pos hb] at h; simp at h
    · rw [if_neg hb] at h
      have hd : digB t = true := by cases hx : digB t <;> simp_all
      split at h
      · rename_i hv
        simp only [Prod.mk.injEq, and_true] at h
        subst h
        have e := digits_of_val _ t rfl hd
        have hpos : 1 ≤ val t := by
          rcases Nat.eq_zero_or_pos (val t) with hz | hz
          · rw [hz, Lib.decDigits_one (by omega)] at e
            exact absurd e.symm (fun x => hb (Or.inr x))
          · exact hz
        refine ⟨?_, by omega, by omega⟩
        unfold Lib.itoa
        rw [if_pos (by omega), Int.natAbs_neg, Int.natAbs_natCast, e]
      · simp at h
  · simp only [hn, if_false, false_and, or_false] at h
    by_cases hb : digB s = false
    · rw [if_pos hb] at h; simp at h
    · rw [if_neg hb] at h
      have hd : digB s = true := by cases hx : digB s <;> simp_all
      split at h
      · rename_i hv
        simp only [Prod.mk.injEq, and_true] at h
        subst h
        have e := digits_of_val _ s rfl hd
        refine ⟨?_, by omega, by omega⟩
        unfold Lib.itoa
        rw [if_neg (by omega), Int.toNat_natCast, e]
      · simp at h
/-! ### What strconv.Atoi gives for digits -/
theorem parse_nil (a : Nat) : Lib.parseUint10 a [] = .ok a := by rw [Lib.parseUint10]
theorem parse_digits (l : List UInt8) (a : Nat) (h : l.all isD = true) (ha : a < 18446744073709551616) : Lib.parseUint10 a l = if valA a l < 18446744073709551616 then .ok (valA a l) else .range := by
  induction l generalizing a with
  | nil => rw [parse_nil, valA_nil, if_pos ha]
  | cons c r ih =>
    simp only [List.all_cons, Bool.and_eq_true] at h
    have hc := isD_iff.1 h.1
    have hge := valA_ge r (a * 10 + (c.toNat - 48))
    rw [Lib.parseUint10, if_pos hc, valA_cons]
    by_cases h1 : 1844674407370955162 ≤ a
    · rw [if_pos h1, if_neg (by omega)]
    · rw [if_neg h1]
      by_cases h2 : 18446744073709551616 ≤ a * 10 + (c.toNat - 48)
      · rw [if_pos h2, if_neg (by omega)]
      · rw [if_neg h2, ih _ h.2 (by omega)]
theorem mag_digits {d : List UInt8} (h : digB d = true) : Lib.parseMag d = if val d < 18446744073709551616 then .ok (val d) else .range := by
  obtain ⟨_, h2, h3⟩ := digB_head h
  unfold Lib.parseMag
  rw [if_neg h2, parse_digits d 0 h3 (by omega)]
  rfl
/-- Digits behind a sign. -/
theorem atoi_neg {d : List UInt8} (h : digB d = true) : Lib.atoiAll (45 :: d) = if val d ≤ 9223372036854775808 then .ok (-(val d : Int)) else .range := by
  have e45 : (45 : UInt8).toNat = 45 := rfl
  unfold Lib.atoiAll
  simp only [e45, or_true, if_true, mag_digits h, not_true_eq_false, false_and, if_false, true_and]
  by_cases h1 : val d < 18446744073709551616
  · rw [if_pos h1]
    by_cases h2 : val d ≤ 9223372036854775808
    · rw [if_pos h2]
      simp only
      rw [if_neg (by omega)]
    · rw [if_neg h2]
      simp only
      rw [if_pos (by omega)]
  · rw [if_neg h1, if_neg (by omega)]
theorem atoi_pos {d : List UInt8} (h : digB d = true) : Lib.atoiAll d = if val d < 9223372036854775808 then .ok (val d : Int) else .range := by
  cases d with
  | nil => simp [digB] at h
  | cons c r =>
    have hm := mag_digits h
    have hc : 48 ≤ c.toNat ∧ c.toNat ≤ 57 := by
      have := (digB_head h).2.2
      simp only [List.all_cons, Bool.and_eq_true] at this
      exact isD_iff.1 this.1
    have h1 : ¬ c.toNat = 45 := by omega
    have h2 : ¬ c.toNat = 43 := by omega
    unfold Lib.atoiAll
    simp only [h1, h2, or_self, if_false, hm, not_false_eq_true, true_and, false_and]
    by_cases h1 : val (c :: r) < 18446744073709551616
    · rw [if_pos h1]
      by_cases h2 : val (c :: r) < 9223372036854775808
      · rw [if_pos h2]
        simp only
        rw [if_neg (by omega)]
      · rw [if_neg h2]
        simp only
        rw [if_pos (by omega)]
    · rw [if_neg h1, if_neg (by omega)]
/-! ### Names -/
def nmB (c : UInt8) : Bool := (decide (97 ≤ c.toNat) && decide (c.toNat ≤ 122)) || ((decide (48 ≤ c.toNat) && decide (c.toNat ≤ 57)) || decide (c.toNat = 95))
def loB (c : UInt8) : Bool := decide (97 ≤ c.toNat) && decide (c.toNat ≤ 122)
def nameB (s : List UInt8) : Bool := (decide (1 ≤ s.length) && decide (s.length ≤ 12)) && ((s.head?.map loB).getD false && s.all nmB)
/-! ### Lists -/
def listK (acc : List Int) : List (List UInt8) → List Int × Int
  | [] => (acc, 0)
  | p :: r => if (intF p).2 = 0 then listK (acc ++ [(intF p).1]) r else ([], (intF p).2)
def listF (s : List UInt8) : List Int × Int := if s = [45] then ([], 0) else listK [] (spl 44 s)
def fmtF (l : List Int) : List UInt8 := if l = [] then [45] else Lib.join (l.map Lib.itoa) [44]
def I64s (l : List Int) : Prop := ∀ n ∈ l, -9223372036854775808 ≤ n ∧ n ≤ 9223372036854775807
theorem listK_itoa : ∀ (l acc : List Int), I64s l → listK acc (l.map Lib.itoa) = (acc ++ l, 0)
  | [], acc, _ => by simp [listK]
  | n :: r, acc, h => by
    have hn := h n (by simp)
    rw [List.map_cons, listK, int_itoa n hn.1 hn.2, if_pos rfl, listK_itoa r _ (fun m hm => h m (by simp [hm]))]
    simp
theorem itoa_chars (n : Int) : (∀ c ∈ Lib.itoa n, isD c = true ∨ c = 45) ∧ Lib.itoa n ≠ [] ∧ Lib.itoa n ≠ [45] := by
  unfold Lib.itoa
  split
  · obtain ⟨_, h2, h3, _⟩ := digits_val n.natAbs
    refine ⟨fun c hc => ?_, by simp, fun h => h3 (by simpa using h)⟩
    simp only [List.mem_cons] at hc
    rcases hc with rfl | hc
    · exact .inr rfl
    · exact .inl (List.all_eq_true.1 h2 c hc)
  · obtain ⟨_, h2, h3, _⟩ := digits_val n.toNat
    refine ⟨fun c hc => .inl (List.all_eq_true.1 h2 c hc), h3, fun h => ?_⟩
    rw [h] at h2
    exact absurd h2 (by decide)
theorem itoa_no (n : Int) (c : UInt8) (h1 : isD c = false) (h2 : c ≠ 45) : c ∉ Lib.itoa n := by
  intro h
  rcases (itoa_chars n).1 c h with h3 | h3
  · rw [h1] at h3; cases h3
  · exact h2 h3
theorem join_ne45 (l : List Int) (h : l ≠ []) : Lib.join (l.map Lib.itoa) [44] ≠ [45] := by
  cases l with
  | nil => exact absurd rfl h
  | cons n r =>
    rw [List.map_cons, Lib.join_cons]
    obtain ⟨_, h2, h3⟩ := itoa_chars n
    intro e
    cases hi : Lib.itoa n with
    | nil => exact h2 hi
    | cons a t =>
      rw [hi] at e h3
      simp only [List.cons_append, List.cons.injEq, List.append_eq_nil_iff] at e
      exact h3 (by rw [e.1, e.2.1])
theorem list_fmt (l : List Int) (h : I64s l) : listF (fmtF l) = (l, 0) := by
  unfold fmtF
  by_cases hl : l = []
  · subst hl; simp [listF]
  · rw [if_neg hl]
    unfold listF
    rw [if_neg (join_ne45 l hl), spl_join 44 _ (by simpa using hl) (fun w hw => by
      obtain ⟨n, _, rfl⟩ := List.mem_map.1 hw
      exact itoa_no n 44 (by decide) (by decide)), listK_itoa l [] h]
    simp
theorem listK_ok : ∀ (ps : List (List UInt8)) (acc a : List Int), listK acc ps = (a, 0) → ∃ b, a = acc ++ b ∧ b.map Lib.itoa = ps ∧ I64s b
  | [], acc, a, h => by
    simp [listK] at h
    exact ⟨[], by simp [h], rfl, fun n hn => by simp at hn⟩
  | p :: r, acc, a, h => by
    rw [listK] at h
    split at h
    · rename_i h0
      obtain ⟨b, h1, h2, h3⟩ := listK_ok r _ a h
      obtain ⟨e1, e2, e3⟩ := itoa_int (s := p) (n := (intF p).1) (by rw [← h0])
      refine ⟨(intF p).1 :: b, by simp [h1], by rw [List.map_cons, e1, h2], fun n hn => ?_⟩
      simp only [List.mem_cons] at hn
      rcases hn with rfl | hn
      · exact ⟨e2, e3⟩
      · exact h3 n hn
    · rename_i h0
      simp only [Prod.mk.injEq] at h
      exact absurd h.2 h0
theorem fmt_list {s : List UInt8} {a : List Int} (h : listF s = (a, 0)) : fmtF a = s ∧ I64s a := by
  unfold listF at h
  split at h
  · rename_i hs
    simp at h
    subst h
    exact ⟨by simp [fmtF, hs], fun n hn => by simp at hn⟩
  · obtain ⟨b, h1, h2, h3⟩ := listK_ok _ _ _ h
    simp at h1
    subst h1
    refine ⟨?_, h3⟩
    have hne : a ≠ [] := by
      rintro rfl
      exact spl_ne 44 s h2.symm
    unfold fmtF
    rw [if_neg hne, h2, join_spl]
theorem listK_code : ∀ (ps : List (List UInt8)) (acc : List Int), (listK acc ps).2 ≠ 0 → (listK acc ps).1 = []
  | [], acc, h => by simp [listK] at h
  | p :: r, acc, h => by
    rw [listK] at h ⊢
    split
    · rename_i h0
      rw [if_pos h0] at h
      exact listK_code r _ h
    · rfl
end Go.Proofs.YtopoknocfoiiaaaGreatDoor
namespace Go.Proofs.YtopoknocfoiiaaaGreatDoor
set_option linter.unusedVariables false
set_option linter.unusedSimpArgs false
structure End2 where
  el : Int
  sd : Int
deriving DecidableEq
structure Elt where
  name : List UInt8
  kind : Int
  len : Int
  grd : Int
  spd : Int
  slow : Int
  sec : Int
deriving DecidableEq
structure Jnt where
  a : End2
  b : End2
deriving DecidableEq
structure Sgn where
  name : List UInt8
  pos : End2
  ovl : Int
deriving DecidableEq
structure Bls where
  id : Int
  el : Int
  off : Int
deriving DecidableEq
structure Lay where
  name : List UInt8
  secs : List (List UInt8)
  els : List Elt
  jts : List Jnt
  sgs : List Sgn
  bls : List Bls
deriving DecidableEq
def zL : Lay := ⟨[], [], [], [], [], []⟩
def inB (n lo hi : Int) : Bool := decide (lo ≤ n) && decide (n ≤ hi)
theorem inB_iff {n lo hi : Int} : inB n lo hi = true ↔ lo ≤ n ∧ n ≤ hi := by simp [inB]
/-- The place of the first one that is equal, or -1. -/
def idxA {α : Type} [DecidableEq α] : List α → α → Int
  | [], _ => -1
  | x :: r, w => if x = w then 0 else if idxA r w < 0 then -1 else idxA r w + 1
section
variable {α : Type} [DecidableEq α]
theorem idxA_ge (l : List α) (w : α) : -1 ≤ idxA l w ∧ idxA l w < l.length := by
  induction l with
  | nil => simp [idxA]
  | cons x r ih =>
    unfold idxA
    simp only [List.length_cons]
    split
    · omega
    · split <;> omega
theorem idxA_no {l : List α} {w : α} (h : w ∉ l) : idxA l w = -1 := by
  induction l with
  | nil => rfl
  | cons x r ih =>
    unfold idxA
    rw [if_neg (fun e => h (by simp [e])), if_pos (by rw [ih (fun e => h (by simp [e]))]; omega)]
theorem idxA_at {l : List α} {w : α} : ∀ {k : Nat}, l[k]? = some w → w ∉ l.take k → idxA l w = k := by
  induction l with
  | nil => intro k h; simp at h
  | cons x r ih =>
    intro k h hn
    cases k with
    | zero => simp at h; simp [idxA, h]
    | succ k =>
      simp at h hn
      unfold idxA
      rw [if_neg (fun e => hn.1 e.symm), ih h hn.2, if_neg (by omega)]
      omega
theorem idxA_mem {l : List α} {w : α} (h : w ∈ l) : 0 ≤ idxA l w ∧ l[(idxA l w).toNat]? = some w := by
  induction l with
  | nil => simp at h
  | cons x r ih =>
    unfold idxA
    split
    · rename_i e; simp [e]
    · rename_i e
      have hr : w ∈ r := by
        rcases List.mem_cons.1 h with h | h
        · exact absurd h.symm e
        · exact h
      obtain ⟨h1, h2⟩ := ih hr
      rw [if_neg (by omega)]
      refine ⟨by omega, ?_⟩
      rw [show (idxA r w + 1).toNat = (idxA r w).toNat + 1 by omega]
      simpa using h2
theorem idxA_iff {l : List α} {w : α} : 0 ≤ idxA l w ↔ w ∈ l := by
  constructor
  · intro h
    by_cases hw : w ∈ l
    · exact hw
    · rw [idxA_no hw] at h; omega
  · exact fun h => (idxA_mem h).1
theorem idxA_nodup {l : List α} (h : l.Nodup) {k : Nat} (hk : k < l.length) : idxA l l[k] = k := by
  refine idxA_at (List.getElem?_eq_getElem hk) ?_
  intro hm
  obtain ⟨i, hi, he⟩ := List.mem_iff_getElem.1 hm
  simp only [List.getElem_take] at he
  rw [List.length_take] at hi
  exact List.pairwise_iff_getElem.1 h i k (by omega) hk (by omega) he
end
/-! ### The checks -/
def sidesF (k : Int) : Int := if k = 1 then 2 else if k = 2 then 3 else if k = 3 then 4 else 0
def kindAt (l : Lay) (i : Int) : Int := ((l.els[i.toNat]?).map Elt.kind).getD 0
def lenAt (l : Lay) (i : Int) : Int := ((l.els[i.toNat]?).map Elt.len).getD 0
def exB (l : Lay) (e : End2) : Bool := (decide (0 ≤ e.el) && decide (e.el < l.els.length)) && (decide (0 ≤ e.sd) && decide (e.sd < sidesF (kindAt l e.el)))
def cntB (l : Lay) : Bool := inB l.els.length 1 32 && (inB l.secs.length 1 24 && (decide (l.sgs.length ≤ 20) && decide (l.bls.length ≤ 24)))
def nmsB (l : Lay) : Bool := nameB l.name && (l.secs.all nameB && ((l.els.all fun e => nameB e.name) && l.sgs.all fun s => nameB s.name))
def difB (l : Lay) : Bool := decide l.secs.Nodup && (decide (l.els.map Elt.name).Nodup && decide (l.sgs.map Sgn.name).Nodup)
def nmC (l : Lay) : Int := if nmsB l = false then 3 else if difB l = false then 8 else 0
def eltB (l : Lay) (e : Elt) : Bool := inB e.kind 1 3 && (inB e.len 500 1000000 && (inB e.grd (-50) 50 && (inB e.spd 100 10000 && (inB e.sec 0 ((l.secs.length : Int) - 1) && (if e.kind = 2 then inB e.slow 100 e.spd else decide (e.slow = 0))))))
def usedB (l : Lay) (i : Nat) : Bool := l.els.any fun e => decide (e.sec = (i : Int))
def useB (l : Lay) : Bool := (List.range l.secs.length).all (usedB l)
def jntB (l : Lay) (j : Jnt) : Bool := exB l j.a && (exB l j.b && decide (j.a ≠ j.b))
def endsL (js : List Jnt) : List End2 := js.flatMap fun j => [j.a, j.b]
def jnC (l : Lay) : Int := if l.jts.all (jntB l) = false then 1 else if decide (endsL l.jts).Nodup = false then 8 else 0
def sgnB (l : Lay) (s : Sgn) : Bool := exB l s.pos && inB s.ovl 0 1000000
def joinedF : List Jnt → End2 → Option End2
  | [], _ => none
  | j :: r, e => if j.a = e then some j.b else if j.b = e then some j.a else joinedF r e
def secAt (l : Lay) (i : Int) : Int := if 0 ≤ i then ((l.els[i.toNat]?).map Elt.sec).getD (-1) else -1
def safeB (l : Lay) (p : End2) : Bool := match joinedF l.jts p with
  | none => false
  | some f => decide (secAt l f.el ≠ secAt l p.el)
def sgC (l : Lay) : Int := if l.sgs.all (sgnB l) = false then 1 else if decide (l.sgs.map Sgn.pos).Nodup = false then 8 else if (l.sgs.all fun s => safeB l s.pos) = false then 14 else 0
def blsB (l : Lay) (b : Bls) : Bool := inB b.id 1 1073741824 && ((decide (0 ≤ b.el) && decide (b.el < l.els.length)) && inB b.off 0 (lenAt l b.el))
def blC (l : Lay) : Int := if l.bls.all (blsB l) = false then 1 else if decide (l.bls.map Bls.id).Nodup = false then 8 else 0
def elB (l : Lay) : Bool := l.els.all (eltB l) && useB l
def chkL (l : Lay) : Int := if cntB l = false then 2 else if nmC l ≠ 0 then nmC l else if elB l = false then 1 else if jnC l ≠ 0 then jnC l else if sgC l ≠ 0 then sgC l else blC l
theorem chkL_ok {l : Lay} (h : chkL l = 0) : cntB l = true ∧ nmC l = 0 ∧ elB l = true ∧ jnC l = 0 ∧ sgC l = 0 ∧ blC l = 0 := by
  unfold chkL at h
  repeat' (split at h)
  all_goals first
    | (exfalso; first | omega | contradiction)
    | (refine ⟨?_, ?_, ?_, ?_, ?_, h⟩ <;> first | simp_all; done | omega)
theorem nmC_ok {l : Lay} (h : nmC l = 0) : nmsB l = true ∧ difB l = true := by
  unfold nmC at h
  repeat' (split at h)
  all_goals simp_all
theorem jnC_ok {l : Lay} (h : jnC l = 0) : l.jts.all (jntB l) = true ∧ (endsL l.jts).Nodup := by
  unfold jnC at h
  repeat' (split at h)
  all_goals simp_all
theorem sgC_ok {l : Lay} (h : sgC l = 0) : l.sgs.all (sgnB l) = true ∧ (l.sgs.map Sgn.pos).Nodup := by
  unfold sgC at h
  repeat' (split at h)
  all_goals simp_all
theorem blC_ok {l : Lay} (h : blC l = 0) : l.bls.all (blsB l) = true ∧ (l.bls.map Bls.id).Nodup := by
  unfold blC at h
  repeat' (split at h)
  all_goals simp_all
/-! ### The text -/
def layoutW : List UInt8 := [108, 97, 121, 111, 117, 116]
def sectionW : List UInt8 := [115, 101, 99, 116, 105, 111, 110]
def trackW : List UInt8 := [116, 114, 97, 99, 107]
def pointsW : List UInt8 := [112, 111, 105, 110, 116, 115]
def crossW : List UInt8 := [99, 114, 111, 115, 115]
def jointW : List UInt8 := [106, 111, 105, 110, 116]
def signalW : List UInt8 := [115, 105, 103, 110, 97, 108]
def baliseW : List UInt8 := [98, 97, 108, 105, 115, 101]
def kwF (k : Int) : List UInt8 := if k = 1 then trackW else if k = 2 then pointsW else if k = 3 then crossW else []
def nmAt (l : Lay) (i : Int) : List UInt8 := ((l.els[i.toNat]?).map Elt.name).getD []
def scAt (l : Lay) (i : Int) : List UInt8 := (l.secs[i.toNat]?).getD []
def numsE (e : Elt) : List Int := if e.kind = 2 then [e.len, e.grd, e.spd, e.slow] else [e.len, e.grd, e.spd]
def eltW (l : Lay) (e : Elt) : List (List UInt8) := kwF e.kind :: e.name :: scAt l e.sec :: (numsE e).map Lib.itoa
def jntW (l : Lay) (j : Jnt) : List (List UInt8) := [jointW, nmAt l j.a.el, Lib.itoa j.a.sd, nmAt l j.b.el, Lib.itoa j.b.sd]
def sgnW (l : Lay) (s : Sgn) : List (List UInt8) := [signalW, s.name, nmAt l s.pos.el, Lib.itoa s.pos.sd, Lib.itoa s.ovl]
def blsW (l : Lay) (b : Bls) : List (List UInt8) := [baliseW, Lib.itoa b.id, nmAt l b.el, Lib.itoa b.off]
def secW (s : List UInt8) : List (List UInt8) := [sectionW, s]
def linesL (l : Lay) : Lns := [layoutW, l.name] :: (l.secs.map secW ++ (l.els.map (eltW l) ++ (l.jts.map (jntW l) ++ (l.sgs.map (sgnW l) ++ l.bls.map (blsW l)))))
def prtL (l : Lay) : List UInt8 × Int := if chkL l = 0 then joinF (linesL l) else ([], chkL l)
/-! ### Reading -/
def placeF (w : List UInt8) : Int := if w = layoutW then 0 else if w = sectionW then 1 else if w = trackW ∨ w = crossW ∨ w = pointsW then 2 else if w = jointW then 3 else if w = signalW then 4 else if w = baliseW then 5 else -1
def formF (w : List UInt8) : List UInt8 := if w = layoutW ∨ w = sectionW then [110] else if w = trackW ∨ w = crossW then [110, 115, 105, 105, 105] else if w = pointsW then [110, 115, 105, 105, 105, 105] else if w = jointW then [101, 105, 101, 105] else if w = signalW then [110, 101, 105, 105] else if w = baliseW then [105, 101, 105] else []
def follB (p q : Int) : Bool := if p < 0 ∨ q = 0 then decide (p < 0) && decide (q = 0) else decide (p ≤ q)
def valF (l : Lay) (c : UInt8) (w : List UInt8) : Int := if c = 105 then (intF w).1 else if c = 115 then idxA l.secs w else if c = 101 then idxA (l.els.map Elt.name) w else 0
def intsOk (f : List UInt8) (a : List (List UInt8)) : Bool := (f.zip a).all fun p => decide (p.1 ≠ 105) || decide ((intF p.2).2 = 0)
def refsOk (l : Lay) (f : List UInt8) (a : List (List UInt8)) : Bool := (f.zip a).all fun p => decide (p.1 = 105) || decide (0 ≤ valF l p.1 p.2)
def valsF (l : Lay) (f : List UInt8) (a : List (List UInt8)) : List Int := (f.zip a).map fun p => valF l p.1 p.2
def kindF (w : List UInt8) : Int := if w = trackW then 1 else if w = pointsW then 2 else if w = crossW then 3 else 0
def mkE (w : List UInt8) (a : List (List UInt8)) (v : List Int) : Elt := ⟨a.getD 0 [], kindF w, v.getD 2 0, v.getD 3 0, v.getD 4 0, if kindF w = 2 then v.getD 5 0 else 0, v.getD 1 0⟩
def addL (l : Lay) (w : List UInt8) (a : List (List UInt8)) (v : List Int) : Lay :=
  if w = layoutW then { l with name := a.getD 0 [] }
  else if w = sectionW then { l with secs := l.secs ++ [a.getD 0 []] }
  else if w = jointW then { l with jts := l.jts ++ [⟨⟨v.getD 0 0, v.getD 1 0⟩, ⟨v.getD 2 0, v.getD 3 0⟩⟩] }
  else if w = signalW then { l with sgs := l.sgs ++ [⟨a.getD 0 [], ⟨v.getD 1 0, v.getD 2 0⟩, v.getD 3 0⟩] }
  else if w = baliseW then { l with bls := l.bls ++ [⟨v.getD 0 0, v.getD 1 0, v.getD 2 0⟩] }
  else { l with els := l.els ++ [mkE w a v] }
def fitsB (p : Int) (ln : List (List UInt8)) : Bool := decide (0 ≤ placeF (ln.headD [])) && (decide (ln.tail.length = (formF (ln.headD [])).length) && follB p (placeF (ln.headD [])))
def readL (l : Lay) (p : Int) (ln : List (List UInt8)) : Lay × Int × Int :=
  if fitsB p ln = false then (l, p, 4)
  else if intsOk (formF (ln.headD [])) ln.tail = false then (l, p, 4)
  else if refsOk l (formF (ln.headD [])) ln.tail = false then (l, p, 9)
  else (addL l (ln.headD []) ln.tail (valsF l (formF (ln.headD [])) ln.tail), placeF (ln.headD []), 0)
def readK : Lay → Int → Nat → Lns → Lay × Nat × Int
  | l, _, _, [] => (l, 0, 0)
  | l, p, n, ln :: r => if (readL l p ln).2.2 = 0 then readK (readL l p ln).1 (readL l p ln).2.1 (n + 1) r else (zL, n + 1, (readL l p ln).2.2)
def endL (r : Lay × Nat × Int) : Lay × Nat × Int := if r.2.2 = 0 then (if chkL r.1 = 0 then (r.1, 0, 0) else (zL, 0, chkL r.1)) else r
def parL (s : List UInt8) : Lay × Nat × Int :=
  if (linesF s).2.2 = 0 then (if (linesF s).1 = [] then (zL, 1, 4) else endL (readK zL (-1) 0 (linesF s).1)) else (zL, (linesF s).2.1, (linesF s).2.2)
end Go.Proofs.YtopoknocfoiiaaaGreatDoor
namespace Go.Proofs.YtopoknocfoiiaaaGreatDoor
set_option linter.unusedVariables false
set_option linter.unusedSimpArgs false
theorem readK_step {l l' : Lay} {p p' : Int} {n : Nat} {ln : List (List UInt8)} {r : Lns} (h : readL l p ln = (l', p', 0)) : readK l p n (ln :: r) = readK l' p' (n + 1) r := by
  rw [readK, h]; rfl
theorem scAt_ok {l : Lay} (h : l.secs.Nodup) {i : Int} (h0 : 0 ≤ i) (h1 : i < l.secs.length) : idxA l.secs (scAt l i) = i ∧ scAt l i ∈ l.secs := by
  have hk : i.toNat < l.secs.length := by omega
  unfold scAt
  rw [List.getElem?_eq_getElem hk, Option.getD_some, idxA_nodup h hk]
  exact ⟨by omega, List.getElem_mem hk⟩
theorem nmAt_ok {l : Lay} (h : (l.els.map Elt.name).Nodup) {i : Int} (h0 : 0 ≤ i) (h1 : i < l.els.length) : idxA (l.els.map Elt.name) (nmAt l i) = i ∧ nmAt l i ∈ l.els.map Elt.name := by
  have hk : i.toNat < (l.els.map Elt.name).length := by simp; omega
  have e : nmAt l i = (l.els.map Elt.name)[i.toNat] := by
    unfold nmAt
    have hk' : i.toNat < l.els.length := by omega
    rw [List.getElem?_eq_getElem hk']
    simp
  rw [e, idxA_nodup h hk]
  exact ⟨by omega, List.getElem_mem hk⟩
/-! ### The numbers of a layout that is right -/
theorem exB_iff {l : Lay} {e : End2} (h : exB l e = true) : (0 ≤ e.el ∧ e.el < l.els.length) ∧ 0 ≤ e.sd ∧ e.sd < 4 := by
  unfold exB at h
  simp only [Bool.and_eq_true, decide_eq_true_eq] at h
  refine ⟨h.1, h.2.1, ?_⟩
  have h2 := h.2.2
  unfold sidesF at h2
  repeat' (split at h2)
  all_goals omega
theorem eltB_iff {l : Lay} {e : Elt} (h : eltB l e = true) : (1 ≤ e.kind ∧ e.kind ≤ 3) ∧ (500 ≤ e.len ∧ e.len ≤ 1000000) ∧ (-50 ≤ e.grd ∧ e.grd ≤ 50) ∧ (100 ≤ e.spd ∧ e.spd ≤ 10000) ∧ (0 ≤ e.sec ∧ e.sec < l.secs.length) ∧ (e.kind = 2 → 100 ≤ e.slow ∧ e.slow ≤ e.spd) ∧ (e.kind ≠ 2 → e.slow = 0) := by
  unfold eltB at h
  simp only [Bool.and_eq_true, inB_iff] at h
  obtain ⟨h1, h2, h3, h4, h5, h6⟩ := h
  refine ⟨h1, h2, h3, h4, by omega, fun hk => ?_, fun hk => ?_⟩
  · rw [if_pos hk] at h6; exact inB_iff.1 h6
  · rw [if_neg hk] at h6; simpa using h6
theorem jntB_iff {l : Lay} {j : Jnt} (h : jntB l j = true) : exB l j.a = true ∧ exB l j.b = true ∧ j.a ≠ j.b := by
  unfold jntB at h
  simpa using h
theorem sgnB_iff {l : Lay} {s : Sgn} (h : sgnB l s = true) : exB l s.pos = true ∧ 0 ≤ s.ovl ∧ s.ovl ≤ 1000000 := by
  unfold sgnB at h
  simpa [inB_iff] using h
theorem blsB_iff {l : Lay} {b : Bls} (h : blsB l b = true) : (1 ≤ b.id ∧ b.id ≤ 1073741824) ∧ (0 ≤ b.el ∧ b.el < l.els.length) ∧ 0 ≤ b.off ∧ b.off ≤ lenAt l b.el := by
  unfold blsB at h
  simpa [inB_iff] using h
/-! ### A layout is restored -/
theorem ints_ok (n : Int) (h : -9223372036854775808 ≤ n ∧ n ≤ 9223372036854775807) : intF (Lib.itoa n) = (n, 0) := int_itoa n h.1 h.2
theorem read_sec (nm : List UInt8) (secs : List (List UInt8)) (p : Int) (hp : 0 ≤ p) (hp2 : p ≤ 1) (s : List UInt8) : readL ⟨nm, secs, [], [], [], []⟩ p (secW s) = (⟨nm, secs ++ [s], [], [], [], []⟩, 1, 0) := by
  have e1 : placeF sectionW = 1 := by decide
  have e2 : formF sectionW = [110] := by decide
  have e3 : follB p 1 = true := by unfold follB; rw [if_neg (by omega)]; simp; omega
  simp [readL, secW, fitsB, e1, e2, e3, intsOk, refsOk, valF, valsF, addL]
  decide
theorem kw_cases {l : Lay} {e : Elt} (h : eltB l e = true) : (e.kind = 1 ∧ kwF e.kind = trackW) ∨ (e.kind = 2 ∧ kwF e.kind = pointsW) ∨ (e.kind = 3 ∧ kwF e.kind = crossW) := by
  obtain ⟨h1, _⟩ := eltB_iff h
  have : e.kind = 1 ∨ e.kind = 2 ∨ e.kind = 3 := by omega
  rcases this with h | h | h <;> simp [h, kwF]
theorem read_elt (l : Lay) (e : Elt) (done : List Elt) (p : Int) (hp : 0 ≤ p) (hp2 : p ≤ 2) (hn : l.secs.Nodup) (h : eltB l e = true) : readL ⟨l.name, l.secs, done, [], [], []⟩ p (eltW l e) = (⟨l.name, l.secs, done ++ [e], [], [], []⟩, 2, 0) := by
  obtain ⟨h1, h2, h3, h4, h5, h6, h7⟩ := eltB_iff h
  have e3 : follB p 2 = true := by unfold follB; rw [if_neg (by omega)]; simp; omega
  have a1 := ints_ok e.len (by omega)
  have a2 := ints_ok e.grd (by omega)
  have a3 := ints_ok e.spd (by omega)
  obtain ⟨a5, a6⟩ := scAt_ok hn h5.1 h5.2
  obtain ⟨nm, kd, ln, gr, sp, sl, sc⟩ := e
  simp only at *
  rcases kw_cases h with ⟨hk, hw⟩ | ⟨hk, hw⟩ | ⟨hk, hw⟩ <;> simp only at hk hw <;> subst hk
  · obtain rfl := h7 (by decide)
    have d1 : placeF trackW = 2 := by decide
    have d2 : formF trackW = [110, 115, 105, 105, 105] := by decide
    have d3 : kindF trackW = 1 := by decide
    have d4 : trackW ≠ layoutW ∧ trackW ≠ sectionW ∧ trackW ≠ jointW ∧ trackW ≠ signalW ∧ trackW ≠ baliseW := by decide
    simp [readL, eltW, numsE, hw, fitsB, d1, d2, e3, intsOk, refsOk, valF, valsF, addL, a1, a2, a3, a5, d4, mkE, d3, h5.1]
  · have a4 := ints_ok sl (by have := h6 rfl; omega)
    have d1 : placeF pointsW = 2 := by decide
    have d2 : formF pointsW = [110, 115, 105, 105, 105, 105] := by decide
    have d3 : kindF pointsW = 2 := by decide
    have d4 : pointsW ≠ layoutW ∧ pointsW ≠ sectionW ∧ pointsW ≠ jointW ∧ pointsW ≠ signalW ∧ pointsW ≠ baliseW := by decide
    simp [readL, eltW, numsE, hw, fitsB, d1, d2, e3, intsOk, refsOk, valF, valsF, addL, a1, a2, a3, a4, a5, d4, mkE, d3, h5.1]
  · obtain rfl := h7 (by decide)
    have d1 : placeF crossW = 2 := by decide
    have d2 : formF crossW = [110, 115, 105, 105, 105] := by decide
    have d3 : kindF crossW = 3 := by decide
    have d4 : crossW ≠ layoutW ∧ crossW ≠ sectionW ∧ crossW ≠ jointW ∧ crossW ≠ signalW ∧ crossW ≠ baliseW := by decide
    simp [readL, eltW, numsE, hw, fitsB, d1, d2, e3, intsOk, refsOk, valF, valsF, addL, a1, a2, a3, a5, d4, mkE, d3, h5.1]
theorem read_jnt (l : Lay) (j : Jnt) (done : List Jnt) (p : Int) (hp : 0 ≤ p) (hp2 : p ≤ 3) (hn : (l.els.map Elt.name).Nodup) (h : jntB l j = true) : readL ⟨l.name, l.secs, l.els, done, [], []⟩ p (jntW l j) = (⟨l.name, l.secs, l.els, done ++ [j], [], []⟩, 3, 0) := by
  obtain ⟨h1, h2, _⟩ := jntB_iff h
  obtain ⟨⟨u1, u2⟩, u3, u4⟩ := exB_iff h1
  obtain ⟨⟨v1, v2⟩, v3, v4⟩ := exB_iff h2
  have e3 : follB p 3 = true := by unfold follB; rw [if_neg (by omega)]; simp; omega
  have a1 := ints_ok j.a.sd (by omega)
  have a2 := ints_ok j.b.sd (by omega)
  obtain ⟨a3, _⟩ := nmAt_ok hn u1 u2
  obtain ⟨a4, _⟩ := nmAt_ok hn v1 v2
  have d1 : placeF jointW = 3 := by decide
  have d2 : formF jointW = [101, 105, 101, 105] := by decide
  have d4 : jointW ≠ layoutW ∧ jointW ≠ sectionW := by decide
  simp [readL, jntW, fitsB, d1, d2, e3, intsOk, refsOk, valF, valsF, addL, a1, a2, a3, a4, d4, u1, v1]
theorem read_sgn (l : Lay) (s : Sgn) (done : List Sgn) (p : Int) (hp : 0 ≤ p) (hp2 : p ≤ 4) (hn : (l.els.map Elt.name).Nodup) (h : sgnB l s = true) : readL ⟨l.name, l.secs, l.els, l.jts, done, []⟩ p (sgnW l s) = (⟨l.name, l.secs, l.els, l.jts, done ++ [s], []⟩, 4, 0) := by
  obtain ⟨h1, h2, h3⟩ := sgnB_iff h
  obtain ⟨⟨u1, u2⟩, u3, u4⟩ := exB_iff h1
  have e3 : follB p 4 = true := by unfold follB; rw [if_neg (by omega)]; simp; omega
  have a1 := ints_ok s.pos.sd (by omega)
  have a2 := ints_ok s.ovl (by omega)
  obtain ⟨a3, _⟩ := nmAt_ok hn u1 u2
  have d1 : placeF signalW = 4 := by decide
  have d2 : formF signalW = [110, 101, 105, 105] := by decide
  have d4 : signalW ≠ layoutW ∧ signalW ≠ sectionW ∧ signalW ≠ jointW := by decide
  simp [readL, sgnW, fitsB, d1, d2, e3, intsOk, refsOk, valF, valsF, addL, a1, a2, a3, d4, u1]
theorem read_bls (l : Lay) (b : Bls) (done : List Bls) (p : Int) (hp : 0 ≤ p) (hp2 : p ≤ 5) (hn : (l.els.map Elt.name).Nodup) (h : blsB l b = true) (hlen : ∀ i, lenAt l i ≤ 9000000) : readL ⟨l.name, l.secs, l.els, l.jts, l.sgs, done⟩ p (blsW l b) = (⟨l.name, l.secs, l.els, l.jts, l.sgs, done ++ [b]⟩, 5, 0) := by
  obtain ⟨h1, ⟨u1, u2⟩, h2, h3⟩ := blsB_iff h
  have := hlen b.el
  have e3 : follB p 5 = true := by unfold follB; rw [if_neg (by omega)]; simp; omega
  have a1 := ints_ok b.id (by omega)
  have a2 := ints_ok b.off (by omega)
  obtain ⟨a3, _⟩ := nmAt_ok hn u1 u2
  have d1 : placeF baliseW = 5 := by decide
  have d2 : formF baliseW = [105, 101, 105] := by decide
  have d4 : baliseW ≠ layoutW ∧ baliseW ≠ sectionW ∧ baliseW ≠ jointW ∧ baliseW ≠ signalW := by decide
  simp [readL, blsW, fitsB, d1, d2, e3, intsOk, refsOk, valF, valsF, addL, a1, a2, a3, d4, u1]
/-- A phase of the reading. -/
theorem phaseS {α : Type} (f : List α → Lay) (g : α → List (List UInt8)) (q : Int) (hq : 0 ≤ q) : ∀ (xs done : List α) (p : Int) (n : Nat) (rest : Lns), 0 ≤ p → p ≤ q → (∀ x ∈ xs, ∀ done p, 0 ≤ p → p ≤ q → readL (f done) p (g x) = (f (done ++ [x]), q, 0)) →
    ∃ p', (0 ≤ p' ∧ p' ≤ q) ∧ readK (f done) p n (xs.map g ++ rest) = readK (f (done ++ xs)) p' (n + xs.length) rest
  | [], done, p, n, rest, h0, h1, _ => ⟨p, ⟨h0, h1⟩, by simp⟩
  | x :: xs, done, p, n, rest, h0, h1, hs => by
    obtain ⟨p', hp, he⟩ := phaseS f g q hq xs (done ++ [x]) q (n + 1) rest hq (Int.le_refl _) (fun y hy => hs y (by simp [hy]))
    refine ⟨p', hp, ?_⟩
    rw [List.map_cons, List.cons_append, readK_step (hs x (by simp) done p h0 h1), he]
    simp only [List.append_assoc, List.cons_append, List.nil_append, List.length_cons]
    rw [show n + 1 + xs.length = n + (xs.length + 1) by omega]
theorem read_all {l : Lay} (h : chkL l = 0) : (readK zL (-1) 0 (linesL l)) = (l, 0, 0) := by
  obtain ⟨_, hn, he, hj, hs, hb⟩ := chkL_ok h
  obtain ⟨_, hd⟩ := nmC_ok hn
  unfold difB at hd
  simp only [Bool.and_eq_true, decide_eq_true_eq] at hd
  obtain ⟨d1, d2, _⟩ := hd
  unfold elB at he
  simp only [Bool.and_eq_true, List.all_eq_true] at he
  have hj := (jnC_ok hj).1
  have hs := (sgC_ok hs).1
  have hb := (blC_ok hb).1
  simp only [List.all_eq_true] at hj hs hb
  have hlen : ∀ i, lenAt l i ≤ 9000000 := by
    intro i
    unfold lenAt
    cases hx : l.els[i.toNat]? with
    | none => simp
    | some e =>
      have := (eltB_iff (he.1 e (List.mem_of_getElem? hx))).2.1
      simp only [Option.map_some, Option.getD_some]
      omega
  have h0 : readL zL (-1) [layoutW, l.name] = (⟨l.name, [], [], [], [], []⟩, 0, 0) := by
    have e1 : placeF layoutW = 0 := by decide
    have e2 : formF layoutW = [110] := by decide
    simp [readL, fitsB, e1, e2, follB, intsOk, refsOk, valF, valsF, addL, zL]
  unfold linesL
  rw [readK_step h0]
  obtain ⟨p1, hp1, e1⟩ := phaseS (fun s => ⟨l.name, s, [], [], [], []⟩) secW 1 (by omega) l.secs [] 0 1 (l.els.map (eltW l) ++ (l.jts.map (jntW l) ++ (l.sgs.map (sgnW l) ++ l.bls.map (blsW l)))) (by omega) (by omega) (fun x _ done p h0 h1 => read_sec l.name done p h0 h1 x)
  simp only [List.nil_append] at e1
  rw [e1]
  obtain ⟨p2, hp2, e2⟩ := phaseS (fun s => ⟨l.name, l.secs, s, [], [], []⟩) (eltW l) 2 (by omega) l.els [] p1 (1 + l.secs.length) (l.jts.map (jntW l) ++ (l.sgs.map (sgnW l) ++ l.bls.map (blsW l))) (by omega) (by omega) (fun x hx done p h0 h1 => read_elt l x done p h0 h1 d1 (he.1 x hx))
  simp only [List.nil_append] at e2
  rw [e2]
  obtain ⟨p3, hp3, e3⟩ := phaseS (fun s => ⟨l.name, l.secs, l.els, s, [], []⟩) (jntW l) 3 (by omega) l.jts [] p2 (1 + l.secs.length + l.els.length) (l.sgs.map (sgnW l) ++ l.bls.map (blsW l)) (by omega) (by omega) (fun x hx done p h0 h1 => read_jnt l x done p h0 h1 d2 (hj x hx))
  simp only [List.nil_append] at e3
  rw [e3]
  obtain ⟨p4, hp4, e4⟩ := phaseS (fun s => ⟨l.name, l.secs, l.els, l.jts, s, []⟩) (sgnW l) 4 (by omega) l.sgs [] p3 (1 + l.secs.length + l.els.length + l.jts.length) (l.bls.map (blsW l)) (by omega) (by omega) (fun x hx done p h0 h1 => read_sgn l x done p h0 h1 d2 (hs x hx))
  simp only [List.nil_append] at e4
  rw [e4]
  obtain ⟨p5, hp5, e5⟩ := phaseS (fun s => ⟨l.name, l.secs, l.els, l.jts, l.sgs, s⟩) (blsW l) 5 (by omega) l.bls [] p4 (1 + l.secs.length + l.els.length + l.jts.length + l.sgs.length) [] (by omega) (by omega) (fun x hx done p h0 h1 => read_bls l x done p h0 h1 d2 (hb x hx) hlen)
  simp only [List.nil_append, List.append_nil] at e5
  rw [e5]
  rfl
theorem par_prt {l : Lay} {t : List UInt8} (h : prtL l = (t, 0)) : parL t = (l, 0, 0) := by
  unfold prtL at h
  split at h
  · rename_i hc
    have hl := lines_join h
    unfold parL
    rw [hl]
    simp only [if_true]
    rw [if_neg (by simp [linesL]), read_all hc]
    simp [endL, hc]
  · rename_i hc
    simp at h
    exact absurd h.2 hc
/-! ### A text is that of its layout -/
def InvP (l : Lay) (p : Int) (done : Lns) : Prop := (p = -1 ∧ l = zL ∧ done = []) ∨ (0 ≤ p ∧ linesL l = done ∧ (p < 1 → l.secs = []) ∧ (p < 2 → l.els = []) ∧ (p < 3 → l.jts = []) ∧ (p < 4 → l.sgs = []) ∧ (p < 5 → l.bls = []))
theorem itoa_of {w : List UInt8} (h : (intF w).2 = 0) : Lib.itoa (intF w).1 = w := (itoa_int (n := (intF w).1) (by rw [← h])).1
theorem scAt_idx {l : Lay} {w : List UInt8} (h : 0 ≤ idxA l.secs w) : scAt l (idxA l.secs w) = w := by
  have := (idxA_mem (idxA_iff.1 h)).2
  unfold scAt
  rw [this]; rfl
theorem nmAt_idx {l : Lay} {w : List UInt8} (h : 0 ≤ idxA (l.els.map Elt.name) w) : nmAt l (idxA (l.els.map Elt.name) w) = w := by
  have := (idxA_mem (idxA_iff.1 h)).2
  unfold nmAt
  rw [List.getElem?_map] at this
  rw [this]; rfl
theorem len_cases {α : Type} {l : List α} {k : Nat} (h : l.length = k + 1) : ∃ x r, l = x :: r ∧ r.length = k := by
  cases l with
  | nil => simp at h
  | cons x r => exact ⟨x, r, rfl, by simpa using h⟩
theorem len_nil {α : Type} {l : List α} (h : l.length = 0) : l = [] := List.eq_nil_of_length_eq_zero h
theorem place_cases (w : List UInt8) (h : 0 ≤ placeF w) : w = layoutW ∨ w = sectionW ∨ w = trackW ∨ w = crossW ∨ w = pointsW ∨ w = jointW ∨ w = signalW ∨ w = baliseW := by
  unfold placeF at h
  by_cases h0 : w = layoutW
  · exact Or.inl h0
  by_cases h1 : w = sectionW
  · exact Or.inr (Or.inl h1)
  by_cases h2 : w = trackW ∨ w = crossW ∨ w = pointsW
  · rcases h2 with h | h | h <;> simp [h]
  by_cases h3 : w = jointW
  · simp [h3]
  by_cases h4 : w = signalW
  · simp [h4]
  by_cases h5 : w = baliseW
  · simp [h5]
  rw [if_neg h0, if_neg h1, if_neg h2, if_neg h3, if_neg h4, if_neg h5] at h
  omega
end Go.Proofs.YtopoknocfoiiaaaGreatDoor
namespace Go.Proofs.YtopoknocfoiiaaaGreatDoor
set_option linter.unusedVariables false
set_option linter.unusedSimpArgs false
theorem readL_ok {l l' : Lay} {p p' : Int} {ln : List (List UInt8)} (h : readL l p ln = (l', p', 0)) :
    fitsB p ln = true ∧ intsOk (formF (ln.headD [])) ln.tail = true ∧ refsOk l (formF (ln.headD [])) ln.tail = true ∧ l' = addL l (ln.headD []) ln.tail (valsF l (formF (ln.headD [])) ln.tail) ∧ p' = placeF (ln.headD []) := by
  unfold readL at h
  split at h
  · simp at h
  · rename_i h1
    split at h
    · simp at h
    · rename_i h2
      split at h
      · simp at h
      · rename_i h3
        simp only [Prod.mk.injEq] at h
        exact ⟨by simpa using h1, by simpa using h2, by simpa using h3, h.1.symm, h.2.1.symm⟩
theorem foll_ge {p q : Int} (h : follB p q = true) (hq : 0 < q) : 0 ≤ p ∧ p ≤ q := by
  unfold follB at h
  split at h
  · simp at h; omega
  · rename_i hn
    simp at h
    omega
theorem foll_zero {p : Int} (h : follB p 0 = true) : p < 0 := by
  unfold follB at h
  simpa using h
theorem inv_step {l l' : Lay} {p p' : Int} {done : Lns} {ln : List (List UInt8)} (hp : -1 ≤ p) (hi : InvP l p done) (h : readL l p ln = (l', p', 0)) : InvP l' p' (done ++ [ln]) ∧ -1 ≤ p' := by
  obtain ⟨h1, h2, h3, rfl, rfl⟩ := readL_ok h
  unfold fitsB at h1
  simp only [Bool.and_eq_true, decide_eq_true_eq] at h1
  obtain ⟨hp0, hlen, hf⟩ := h1
  refine ⟨?_, by omega⟩
  cases ln with
  | nil => simp [placeF, layoutW, sectionW, trackW, crossW, pointsW, jointW, signalW, baliseW] at hp0
  | cons w a =>
    simp only [List.headD_cons, List.tail_cons] at *
    obtain ⟨nm, secs, els, jts, sgs, bls⟩ := l
    rcases place_cases w hp0 with rfl | rfl | rfl | rfl | rfl | rfl | rfl | rfl
    · have e1 : placeF layoutW = 0 := by decide
      have e2 : formF layoutW = [110] := by decide
      rw [e1] at hf ⊢
      rw [e2] at hlen h2 h3 ⊢
      have hn := foll_zero hf
      rcases hi with ⟨_, hl, rfl⟩ | ⟨h0, _⟩
      · simp only [zL, Lay.mk.injEq] at hl
        obtain ⟨rfl, rfl, rfl, rfl, rfl, rfl⟩ := hl
        obtain ⟨x, r1, rfl, hr1⟩ := len_cases hlen
        obtain rfl := len_nil hr1
        refine Or.inr ⟨by omega, ?_, ?_⟩ <;> simp [addL, linesL]
      · omega
    · have e1 : placeF sectionW = 1 := by decide
      have e2 : formF sectionW = [110] := by decide
      have e3 : sectionW ≠ layoutW := by decide
      rw [e1] at hf ⊢
      rw [e2] at hlen h2 h3 ⊢
      obtain ⟨g0, g1⟩ := foll_ge hf (by omega)
      rcases hi with ⟨_, hl, rfl⟩ | ⟨h0, hL, i1, i2, i3, i4, i5⟩
      · omega
      · obtain ⟨x, r1, rfl, hr1⟩ := len_cases hlen
        obtain rfl := len_nil hr1
        have j2 := i2 (by omega)
        have j3 := i3 (by omega)
        have j4 := i4 (by omega)
        have j5 := i5 (by omega)
        simp only at j2 j3 j4 j5
        subst j2 j3 j4 j5
        refine Or.inr ⟨by omega, ?_, by omega, fun _ => rfl, fun _ => rfl, fun _ => rfl, fun _ => rfl⟩
        rw [← hL]
        simp [addL, linesL, e3, secW]
    · have e1 : placeF trackW = 2 := by decide
      have e2 : formF trackW = [110, 115, 105, 105, 105] := by decide
      have e3 : trackW ≠ layoutW ∧ trackW ≠ sectionW ∧ trackW ≠ jointW ∧ trackW ≠ signalW ∧ trackW ≠ baliseW := by decide
      have e4 : kindF trackW = 1 := by decide
      rw [e1] at hf ⊢
      rw [e2] at hlen h2 h3 ⊢
      obtain ⟨g0, g1⟩ := foll_ge hf (by omega)
      rcases hi with ⟨_, hl, rfl⟩ | ⟨h0, hL, i1, i2, i3, i4, i5⟩
      · omega
      · obtain ⟨a0, r1, rfl, hr1⟩ := len_cases hlen
        obtain ⟨a1, r2, rfl, hr2⟩ := len_cases hr1
        obtain ⟨a2, r3, rfl, hr3⟩ := len_cases hr2
        obtain ⟨a3, r4, rfl, hr4⟩ := len_cases hr3
        obtain ⟨a4, r5, rfl, hr5⟩ := len_cases hr4
        obtain rfl := len_nil hr5
        simp [intsOk] at h2
        simp [refsOk, valF] at h3
        obtain ⟨q1, q2, q3⟩ := h2
        have j3 := i3 (by omega)
        have j4 := i4 (by omega)
        have j5 := i5 (by omega)
        simp only at j3 j4 j5
        subst j3 j4 j5
        refine Or.inr ⟨by omega, ?_, by omega, by omega, fun _ => by simp [addL, e3], fun _ => by simp [addL, e3], fun _ => by simp [addL, e3]⟩
        have hs := scAt_idx (l := ⟨nm, secs, els ++ [⟨a0, 1, (intF a2).1, (intF a3).1, (intF a4).1, 0, idxA secs a1⟩], [], [], []⟩) h3
        rw [← hL]
        have hs2 : ∀ e, eltW ⟨nm, secs, els ++ [⟨a0, 1, (intF a2).1, (intF a3).1, (intF a4).1, 0, idxA secs a1⟩], [], [], []⟩ e = eltW ⟨nm, secs, els, [], [], []⟩ e := fun _ => rfl
        simp [addL, e3, mkE, e4, valsF, valF, linesL, funext hs2]
        simp [eltW, kwF, numsE, itoa_of q1, itoa_of q2, itoa_of q3]
        exact hs
    · have e1 : placeF crossW = 2 := by decide
      have e2 : formF crossW = [110, 115, 105, 105, 105] := by decide
      have e3 : crossW ≠ layoutW ∧ crossW ≠ sectionW ∧ crossW ≠ jointW ∧ crossW ≠ signalW ∧ crossW ≠ baliseW := by decide
      have e4 : kindF crossW = 3 := by decide
      rw [e1] at hf ⊢
      rw [e2] at hlen h2 h3 ⊢
      obtain ⟨g0, g1⟩ := foll_ge hf (by omega)
      rcases hi with ⟨_, hl, rfl⟩ | ⟨h0, hL, i1, i2, i3, i4, i5⟩
      · omega
      · obtain ⟨a0, r1, rfl, hr1⟩ := len_cases hlen
        obtain ⟨a1, r2, rfl, hr2⟩ := len_cases hr1
        obtain ⟨a2, r3, rfl, hr3⟩ := len_cases hr2
        obtain ⟨a3, r4, rfl, hr4⟩ := len_cases hr3
        obtain ⟨a4, r5, rfl, hr5⟩ := len_cases hr4
        obtain rfl := len_nil hr5
        simp [intsOk] at h2
        simp [refsOk, valF] at h3
        obtain ⟨q1, q2, q3⟩ := h2
        have j3 := i3 (by omega)
        have j4 := i4 (by omega)
        have j5 := i5 (by omega)
        simp only at j3 j4 j5
        subst j3 j4 j5
        refine Or.inr ⟨by omega, ?_, by omega, by omega, fun _ => by simp [addL, e3], fun _ => by simp [addL, e3], fun _ => by simp [addL, e3]⟩
        have hs := scAt_idx (l := ⟨nm, secs, els ++ [⟨a0, 3, (intF a2).1, (intF a3).1, (intF a4).1, 0, idxA secs a1⟩], [], [], []⟩) h3
        rw [← hL]
        have hs2 : ∀ e, eltW ⟨nm, secs, els ++ [⟨a0, 3, (intF a2).1, (intF a3).1, (intF a4).1, 0, idxA secs a1⟩], [], [], []⟩ e = eltW ⟨nm, secs, els, [], [], []⟩ e := fun _ => rfl
        simp [addL, e3, mkE, e4, valsF, valF, linesL, funext hs2]
        simp [eltW, kwF, numsE, itoa_of q1, itoa_of q2, itoa_of q3]
        exact hs
    · have e1 : placeF pointsW = 2 := by decide
      have e2 : formF pointsW = [110, 115, 105, 105, 105, 105] := by decide
      have e3 : pointsW ≠ layoutW ∧ pointsW ≠ sectionW ∧ pointsW ≠ jointW ∧ pointsW ≠ signalW ∧ pointsW ≠ baliseW := by decide
      have e4 : kindF pointsW = 2 := by decide
      rw [e1] at hf ⊢
      rw [e2] at hlen h2 h3 ⊢
      obtain ⟨g0, g1⟩ := foll_ge hf (by omega)
      rcases hi with ⟨_, hl, rfl⟩ | ⟨h0, hL, i1, i2, i3, i4, i5⟩
      · omega
      · obtain ⟨a0, r1, rfl, hr1⟩ := len_cases hlen
        obtain ⟨a1, r2, rfl, hr2⟩ := len_cases hr1
        obtain ⟨a2, r3, rfl, hr3⟩ := len_cases hr2
        obtain ⟨a3, r4, rfl, hr4⟩ := len_cases hr3
        obtain ⟨a4, r5, rfl, hr5⟩ := len_cases hr4
        obtain ⟨a5, r6, rfl, hr6⟩ := len_cases hr5
        obtain rfl := len_nil hr6
        simp [intsOk] at h2
        simp [refsOk, valF] at h3
        obtain ⟨q1, q2, q3, q4⟩ := h2
        have j3 := i3 (by omega)
        have j4 := i4 (by omega)
        have j5 := i5 (by omega)
        simp only at j3 j4 j5
        subst j3 j4 j5
        refine Or.inr ⟨by omega, ?_, by omega, by omega, fun _ => by simp [addL, e3], fun _ => by simp [addL, e3], fun _ => by simp [addL, e3]⟩
        have hs := scAt_idx (l := ⟨nm, secs, els ++ [⟨a0, 2, (intF a2).1, (intF a3).1, (intF a4).1, (intF a5).1, idxA secs a1⟩], [], [], []⟩) h3
        rw [← hL]
        have hs2 : ∀ e, eltW ⟨nm, secs, els ++ [⟨a0, 2, (intF a2).1, (intF a3).1, (intF a4).1, (intF a5).1, idxA secs a1⟩], [], [], []⟩ e = eltW ⟨nm, secs, els, [], [], []⟩ e := fun _ => rfl
        simp [addL, e3, mkE, e4, valsF, valF, linesL, funext hs2]
        simp [eltW, kwF, numsE, itoa_of q1, itoa_of q2, itoa_of q3, itoa_of q4]
        exact hs
    · have e1 : placeF jointW = 3 := by decide
      have e2 : formF jointW = [101, 105, 101, 105] := by decide
      have e3 : jointW ≠ layoutW ∧ jointW ≠ sectionW := by decide
      rw [e1] at hf ⊢
      rw [e2] at hlen h2 h3 ⊢
      obtain ⟨g0, g1⟩ := foll_ge hf (by omega)
      rcases hi with ⟨_, hl, rfl⟩ | ⟨h0, hL, i1, i2, i3, i4, i5⟩
      · omega
      · obtain ⟨a0, r1, rfl, hr1⟩ := len_cases hlen
        obtain ⟨a1, r2, rfl, hr2⟩ := len_cases hr1
        obtain ⟨a2, r3, rfl, hr3⟩ := len_cases hr2
        obtain ⟨a3, r4, rfl, hr4⟩ := len_cases hr3
        obtain rfl := len_nil hr4
        simp [intsOk] at h2
        simp [refsOk, valF] at h3
        obtain ⟨q1, q2⟩ := h2
        obtain ⟨r1, r2⟩ := h3
        have j4 := i4 (by omega)
        have j5 := i5 (by omega)
        simp only at j4 j5
        subst j4 j5
        refine Or.inr ⟨by omega, ?_, by omega, by omega, by omega, fun _ => by simp [addL, e3], fun _ => by simp [addL, e3]⟩
        have s1 := nmAt_idx (l := ⟨nm, secs, els, jts, [], []⟩) r1
        have s2 := nmAt_idx (l := ⟨nm, secs, els, jts, [], []⟩) r2
        rw [← hL]
        simp [addL, e3, valsF, valF, linesL]
        have hs2 : ∀ js, jntW ⟨nm, secs, els, js, [], []⟩ = jntW ⟨nm, secs, els, jts, [], []⟩ := fun _ => rfl
        have hs3 : ∀ js, eltW ⟨nm, secs, els, js, [], []⟩ = eltW ⟨nm, secs, els, jts, [], []⟩ := fun _ => rfl
        rw [hs2 (jts ++ _), hs3 (jts ++ _)]
        simp only at s1 s2
        simp [jntW, itoa_of q1, itoa_of q2, s1, s2]
    · have e1 : placeF signalW = 4 := by decide
      have e2 : formF signalW = [110, 101, 105, 105] := by decide
      have e3 : signalW ≠ layoutW ∧ signalW ≠ sectionW ∧ signalW ≠ jointW := by decide
      rw [e1] at hf ⊢
      rw [e2] at hlen h2 h3 ⊢
      obtain ⟨g0, g1⟩ := foll_ge hf (by omega)
      rcases hi with ⟨_, hl, rfl⟩ | ⟨h0, hL, i1, i2, i3, i4, i5⟩
      · omega
      · obtain ⟨a0, r1, rfl, hr1⟩ := len_cases hlen
        obtain ⟨a1, r2, rfl, hr2⟩ := len_cases hr1
        obtain ⟨a2, r3, rfl, hr3⟩ := len_cases hr2
        obtain ⟨a3, r4, rfl, hr4⟩ := len_cases hr3
        obtain rfl := len_nil hr4
        simp [intsOk] at h2
        simp [refsOk, valF] at h3
        obtain ⟨q1, q2⟩ := h2
        have j5 := i5 (by omega)
        simp only at j5
        subst j5
        refine Or.inr ⟨by omega, ?_, by omega, by omega, by omega, by omega, fun _ => by simp [addL, e3]⟩
        have s1 := nmAt_idx (l := ⟨nm, secs, els, jts, sgs, []⟩) h3
        rw [← hL]
        simp [addL, e3, valsF, valF, linesL]
        have hs1 : ∀ js, sgnW ⟨nm, secs, els, jts, js, []⟩ = sgnW ⟨nm, secs, els, jts, sgs, []⟩ := fun _ => rfl
        have hs2 : ∀ js, jntW ⟨nm, secs, els, jts, js, []⟩ = jntW ⟨nm, secs, els, jts, sgs, []⟩ := fun _ => rfl
        have hs3 : ∀ js, eltW ⟨nm, secs, els, jts, js, []⟩ = eltW ⟨nm, secs, els, jts, sgs, []⟩ := fun _ => rfl
        rw [hs1 (sgs ++ _), hs2 (sgs ++ _), hs3 (sgs ++ _)]
        simp only at s1
        simp [sgnW, itoa_of q1, itoa_of q2, s1]
    · have e1 : placeF baliseW = 5 := by decide
      have e2 : formF baliseW = [105, 101, 105] := by decide
      have e3 : baliseW ≠ layoutW ∧ baliseW ≠ sectionW ∧ baliseW ≠ jointW ∧ baliseW ≠ signalW := by decide
      rw [e1] at hf ⊢
      rw [e2] at hlen h2 h3 ⊢
      obtain ⟨g0, g1⟩ := foll_ge hf (by omega)
      rcases hi with ⟨_, hl, rfl⟩ | ⟨h0, hL, i1, i2, i3, i4, i5⟩
      · omega
      · obtain ⟨a0, r1, rfl, hr1⟩ := len_cases hlen
        obtain ⟨a1, r2, rfl, hr2⟩ := len_cases hr1
        obtain ⟨a2, r3, rfl, hr3⟩ := len_cases hr2
        obtain rfl := len_nil hr3
        simp [intsOk] at h2
        simp [refsOk, valF] at h3
        obtain ⟨q1, q2⟩ := h2
        refine Or.inr ⟨by omega, ?_, by omega, by omega, by omega, by omega, by omega⟩
        have s1 := nmAt_idx (l := ⟨nm, secs, els, jts, sgs, bls⟩) h3
        rw [← hL]
        simp [addL, e3, valsF, valF, linesL]
        have hs0 : ∀ js, blsW ⟨nm, secs, els, jts, sgs, js⟩ = blsW ⟨nm, secs, els, jts, sgs, bls⟩ := fun _ => rfl
        have hs1 : ∀ js, sgnW ⟨nm, secs, els, jts, sgs, js⟩ = sgnW ⟨nm, secs, els, jts, sgs, bls⟩ := fun _ => rfl
        have hs2 : ∀ js, jntW ⟨nm, secs, els, jts, sgs, js⟩ = jntW ⟨nm, secs, els, jts, sgs, bls⟩ := fun _ => rfl
        have hs3 : ∀ js, eltW ⟨nm, secs, els, jts, sgs, js⟩ = eltW ⟨nm, secs, els, jts, sgs, bls⟩ := fun _ => rfl
        rw [hs0 (bls ++ _), hs1 (bls ++ _), hs2 (bls ++ _), hs3 (bls ++ _)]
        simp only at s1
        simp [blsW, itoa_of q1, itoa_of q2, s1]
theorem readK_ok : ∀ (ls : Lns) (l m : Lay) (p : Int) (n k : Nat) (done : Lns), -1 ≤ p → InvP l p done → readK l p n ls = (m, k, 0) → ∃ p', InvP m p' (done ++ ls) ∧ -1 ≤ p'
  | [], l, m, p, n, k, done, hp, hi, h => by
    simp only [readK, Prod.mk.injEq] at h
    exact ⟨p, by rw [List.append_nil, ← h.1]; exact hi, hp⟩
  | ln :: r, l, m, p, n, k, done, hp, hi, h => by
    rw [readK] at h
    split at h
    · rename_i h0
      obtain ⟨g1, g2⟩ := inv_step (l' := (readL l p ln).1) (p' := (readL l p ln).2.1) hp hi (by rw [← h0])
      obtain ⟨p', h1, h2⟩ := readK_ok r _ m _ _ k _ g2 g1 h
      exact ⟨p', by simpa using h1, h2⟩
    · rename_i h0
      simp only [Prod.mk.injEq] at h
      exact absurd h.2.2 h0
theorem readK_err : ∀ (ls : Lns) (l : Lay) (p : Int) (n : Nat) (r : Lay × Nat × Int), readK l p n ls = r → r.2.2 ≠ 0 → r.1 = zL ∧ (n < r.2.1 ∧ r.2.1 ≤ n + ls.length) ∧ (∀ more, readK l p n (ls.take (r.2.1 - n) ++ more) = r) ∧ (readK l p n (ls.take (r.2.1 - n - 1))).2.2 = 0
  | [], l, p, n, r, h, h0 => by
    subst h
    simp [readK] at h0
  | ln :: ls, l, p, n, r, h, h0 => by
    rw [readK] at h
    split at h
    · rename_i hz
      obtain ⟨h1, ⟨h2, h3⟩, h4, h5⟩ := readK_err ls _ _ _ r h h0
      have e1 : r.2.1 - n = (r.2.1 - (n + 1)) + 1 := by omega
      refine ⟨h1, ⟨by omega, by simp; omega⟩, fun more => ?_, ?_⟩
      · rw [e1, List.take_succ_cons, List.cons_append, readK, if_pos hz, h4 more]
      · by_cases e : r.2.1 = n + 1
        · rw [e]; simp [readK]
        · have e2 : r.2.1 - n - 1 = (r.2.1 - (n + 1) - 1) + 1 := by omega
          rw [e2, List.take_succ_cons, readK, if_pos hz]
          exact h5
    · rename_i hz
      subst h
      refine ⟨rfl, ⟨by simp, by simp⟩, fun more => ?_, by simp [readK]⟩
      have e1 : n + 1 - n = 0 + 1 := by omega
      simp only [e1, List.take_succ_cons, List.take_zero, List.cons_append, List.nil_append]
      rw [readK, if_neg hz]
theorem prt_par {s : List UInt8} {m : Lay} {n : Nat} (h : parL s = (m, n, 0)) : prtL m = (s, 0) ∧ chkL m = 0 := by
  unfold parL at h
  split at h
  · rename_i h0
    split at h
    · simp at h
    · rename_i hne
      unfold endL at h
      split at h
      · rename_i h1
        split at h
        · rename_i hc
          simp only [Prod.mk.injEq] at h
          obtain ⟨rfl, _⟩ := h
          refine ⟨?_, hc⟩
          obtain ⟨p', hi, _⟩ := readK_ok (linesF s).1 zL _ (-1) 0 _ [] (by omega) (Or.inl ⟨rfl, rfl, rfl⟩) (show readK zL (-1) 0 (linesF s).1 = ((readK zL (-1) 0 (linesF s).1).1, (readK zL (-1) 0 (linesF s).1).2.1, 0) by rw [← h1])
          unfold prtL
          rw [if_pos hc]
          have hL : linesL (readK zL (-1) 0 (linesF s).1).1 = (linesF s).1 := by
            rcases hi with ⟨_, _, hd⟩ | ⟨_, hd, _⟩
            · simp at hd; exact absurd hd hne
            · simpa using hd
          rw [hL]
          exact join_lines (s := s) (m := (linesF s).1) (n := (linesF s).2.1) (by rw [← h0])
        · rename_i hc
          simp only [Prod.mk.injEq] at h
          exact absurd h.2.2 hc
      · rename_i h1
        rw [h] at h1
        simp at h1
  · rename_i h0
    simp only [Prod.mk.injEq] at h
    exact absurd h.2.2 h0
/-! ### The first wrong line -/
theorem textOf_app (a b : Lns) : textOf (a ++ b) = textOf a ++ textOf b := by simp [textOf]
theorem join_take {ls : Lns} {s : List UInt8} (h : joinF ls = (s, 0)) (k : Nat) : ∃ t, joinF (ls.take k) = (t, 0) := by
  unfold joinF at h ⊢
  split at h
  · rename_i hg
    split at h
    · simp at h
    · rename_i hs
      have hg' : (ls.take k).all goodL = true := by
        rw [List.all_eq_true] at hg ⊢
        exact fun x hx => hg x (List.mem_of_mem_take hx)
      have hl : (textOf (ls.take k)).length ≤ (textOf ls).length := by
        conv => rhs; rw [← List.take_append_drop k ls, textOf_app, List.length_append]
        omega
      rw [if_pos hg', if_neg (by omega)]
      exact ⟨_, rfl⟩
  · simp at h
theorem par_first {s : List UInt8} {ls : Lns} {k : Nat} (hl : linesF s = (ls, k, 0)) {r : Lay × Nat × Int} (h : parL s = r) (h1 : 1 ≤ r.2.1) (h2 : r.2.1 ≤ ls.length) :
    (∀ tb, joinF (ls.take (r.2.1 - 1)) = (tb, 0) → (1 < r.2.1 → (parL tb).2.1 = 0) ∧ (r.2.1 = 1 → (parL tb).2 = (1, 4))) ∧
    (∀ more t, joinF (ls.take r.2.1 ++ more) = (t, 0) → (parL t).2 = r.2) := by
  unfold parL at h
  rw [hl] at h
  simp only [if_true] at h
  have hne : ls ≠ [] := by rintro rfl; simp at h2; omega
  rw [if_neg hne] at h
  have hz : (readK zL (-1) 0 ls).2.2 ≠ 0 := by
    intro hz
    unfold endL at h
    rw [if_pos hz] at h
    split at h
    · rw [← h] at h1; simp at h1
    · rw [← h] at h1; simp at h1
  unfold endL at h
  rw [if_neg hz] at h
  obtain ⟨g1, ⟨g2, g3⟩, g4, g5⟩ := readK_err ls zL (-1) 0 r h (by rw [← h]; exact hz)
  simp only [Nat.sub_zero] at g4 g5
  refine ⟨fun tb htb => ?_, fun more t ht => ?_⟩
  · have e := lines_join htb
    refine ⟨fun hgt => ?_, fun heq => ?_⟩
    · unfold parL
      rw [e]
      simp only [if_true]
      rw [if_neg (by intro hx; have := congrArg List.length hx; rw [List.length_take, List.length_nil] at this; omega)]
      unfold endL
      rw [if_pos g5]
      split <;> rfl
    · unfold parL
      rw [e]
      simp [heq]
  · have e := lines_join ht
    unfold parL
    rw [e]
    simp only [if_true]
    rw [if_neg (by intro hx; have := congrArg List.length hx; rw [List.length_append, List.length_take, List.length_nil] at this; omega), g4 more]
    unfold endL
    have hr0 : r.2.2 ≠ 0 := by rw [← h]; exact hz
    rw [if_neg hr0]
theorem par_err {s : List UInt8} (h : (linesF s).2.2 ≠ 0) : (parL s).2.2 = (linesF s).2.2 := by
  unfold parL
  rw [if_neg h]
/-! ### The number of lines -/
def isEl (w : List UInt8) : Bool := decide (w = trackW) || (decide (w = pointsW) || decide (w = crossW))
def isOt (w : List UInt8) : Bool := decide (w = layoutW) || (decide (w = sectionW) || (decide (w = jointW) || (decide (w = signalW) || decide (w = baliseW))))
theorem lines_len (l : Lay) : (linesL l).length = 1 + l.secs.length + l.els.length + l.jts.length + l.sgs.length + l.bls.length := by
  simp [linesL]; omega
theorem heads_ok {l : Lay} (h : chkL l = 0) : (∀ x ∈ linesL l, isEl (x.headD []) = true ∨ isOt (x.headD []) = true) ∧ ((linesL l).filter fun x => isEl (x.headD [])).length = l.els.length := by
  have he := (chkL_ok h).2.2.1
  unfold elB at he
  simp only [Bool.and_eq_true, List.all_eq_true] at he
  have hE : ∀ e ∈ l.els, isEl ((eltW l e).headD []) = true := by
    intro e hm
    rcases kw_cases (he.1 e hm) with ⟨_, hw⟩ | ⟨_, hw⟩ | ⟨_, hw⟩ <;> simp [eltW, hw, isEl]
  constructor
  · intro x hx
    simp only [linesL, List.mem_cons, List.mem_append, List.mem_map] at hx
    rcases hx with rfl | ⟨a, _, rfl⟩ | ⟨a, ha, rfl⟩ | ⟨a, _, rfl⟩ | ⟨a, _, rfl⟩ | ⟨a, _, rfl⟩
    · exact Or.inr (by simp [isOt])
    · exact Or.inr (by simp [secW, isOt])
    · exact Or.inl (hE a ha)
    · exact Or.inr (by simp [jntW, isOt])
    · exact Or.inr (by simp [sgnW, isOt])
    · exact Or.inr (by simp [blsW, isOt])
  · have d1 : isEl layoutW = false := by decide
    have d2 : isEl sectionW = false := by decide
    have d3 : isEl jointW = false := by decide
    have d4 : isEl signalW = false := by decide
    have d5 : isEl baliseW = false := by decide
    have f1 : (l.secs.map secW).filter (fun x => isEl (x.headD [])) = [] := by simp [List.filter_eq_nil_iff, secW, d2]
    have f2 : (l.els.map (eltW l)).filter (fun x => isEl (x.headD [])) = l.els.map (eltW l) := by
      rw [List.filter_eq_self]
      intro x hx
      obtain ⟨e, hm, rfl⟩ := List.mem_map.1 hx
      exact hE e hm
    have f3 : (l.jts.map (jntW l)).filter (fun x => isEl (x.headD [])) = [] := by simp [List.filter_eq_nil_iff, jntW, d3]
    have f4 : (l.sgs.map (sgnW l)).filter (fun x => isEl (x.headD [])) = [] := by simp [List.filter_eq_nil_iff, sgnW, d4]
    have f5 : (l.bls.map (blsW l)).filter (fun x => isEl (x.headD [])) = [] := by simp [List.filter_eq_nil_iff, blsW, d5]
    rw [linesL, List.filter_cons]
    simp only [List.headD_cons, d1, Bool.false_eq_true, if_false, List.filter_append, f1, f2, f3, f4, f5]
    simp
end Go.Proofs.YtopoknocfoiiaaaGreatDoor
namespace Go.Proofs.YtopoknocfoiiaaaGreatDoor
set_option linter.unusedVariables false
set_option linter.unusedSimpArgs false
theorem itoaP_len (n : Int) (h : -9223372036854775808 ≤ n ∧ n ≤ 9223372036854775807) : (Lib.itoa n).length ≤ 21 := by
  have h1 : ∀ u : Nat, u ≤ 9223372036854775808 → (Lib.decDigits u).length ≤ 20 := fun u hu => by rw [Lib.decDigits_length]; exact Lib.nDigits_le20 u (by omega)
  unfold Lib.itoa
  split
  · have := h1 n.natAbs (by omega)
    simp only [List.length_cons]
    omega
  · have := h1 n.toNat (by omega)
    omega
theorem itoa_wordP (n : Int) (h : -9223372036854775808 ≤ n ∧ n ≤ 9223372036854775807) : wordB (Lib.itoa n) = true := by
  obtain ⟨h1, h2, _⟩ := itoa_chars n
  have h3 := itoaP_len n h
  have h4 := List.length_pos_iff.2 h2
  unfold wordB
  simp only [Bool.and_eq_true, List.all_eq_true, decide_eq_true_eq]
  refine ⟨fun c hc => ?_, by omega, by omega⟩
  unfold chB
  rcases h1 c hc with h | h
  · have := isD_iff.1 h
    simp only [Bool.and_eq_true, decide_eq_true_eq]
    omega
  · subst h; decide
theorem name_wordP {s : List UInt8} (h : nameB s = true) : wordB s = true := by
  unfold nameB at h
  simp only [Bool.and_eq_true, decide_eq_true_eq] at h
  obtain ⟨⟨h1, h2⟩, _, h4⟩ := h
  unfold wordB
  simp only [Bool.and_eq_true, List.all_eq_true, decide_eq_true_eq] at h4 ⊢
  refine ⟨fun c hc => ?_, by omega, by omega⟩
  have := h4 c hc
  unfold nmB at this
  unfold chB
  simp only [Bool.or_eq_true, Bool.and_eq_true, decide_eq_true_eq] at this ⊢
  omega
def wlen (ws : List (List UInt8)) : Nat := (ws.map fun w => w.length + 1).sum
theorem lineP_len : ∀ (ws : List (List UInt8)), ws ≠ [] → (lineT ws).length = wlen ws
  | [], h => absurd rfl h
  | [w], _ => by simp [lineT, Lib.join_one, wlen]
  | w :: v :: r, _ => by
    have ih := lineP_len (v :: r) (by simp)
    have e : Lib.join (w :: v :: r) [32] = w ++ ([32] ++ Lib.join (v :: r) [32]) := by unfold Lib.join; simp [List.intercalate]
    unfold lineT at ih ⊢
    rw [e]
    simp only [List.length_append, List.length_cons, List.length_nil, wlen, List.map_cons, List.sum_cons] at ih ⊢
    omega
theorem textP_len : ∀ (ls : Lns) (b : Nat), (∀ x ∈ ls, (lineT x).length ≤ b) → (textOf ls).length ≤ ls.length * b
  | [], _, _ => by simp [textOf]
  | x :: r, b, h => by
    have ih := textP_len r b fun y hy => h y (by simp [hy])
    have hx := h x (by simp)
    unfold textOf at ih ⊢
    simp only [List.map_cons, List.flatten_cons, List.length_append, List.length_cons, Nat.add_mul]
    omega
theorem name_len {s : List UInt8} (h : nameB s = true) : s.length ≤ 12 := by
  unfold nameB at h
  simp only [Bool.and_eq_true, decide_eq_true_eq] at h
  exact h.1.2
def GoodW (w : List UInt8) (n : Nat) : Prop := wordB w = true ∧ w.length ≤ n
theorem good_itoa {n : Int} (h : -9223372036854775808 ≤ n ∧ n ≤ 9223372036854775807) : GoodW (Lib.itoa n) 21 := ⟨itoa_wordP n h, itoaP_len n h⟩
theorem good_name {s : List UInt8} (h : nameB s = true) : GoodW s 12 := ⟨name_wordP h, name_len h⟩
def GoodWs : List (List UInt8) → List Nat → Prop
  | [], [] => True
  | w :: r, n :: m => GoodW w n ∧ GoodWs r m
  | _, _ => False
theorem good_words : ∀ {ls : List (List UInt8)} {ns : List Nat}, GoodWs ls ns → (∀ w ∈ ls, wordB w = true) ∧ wlen ls ≤ (ns.map (· + 1)).sum
  | [], [], _ => by simp [wlen]
  | [], _ :: _, h => by simp [GoodWs] at h
  | _ :: _, [], h => by simp [GoodWs] at h
  | w :: r, n :: m, h => by
    obtain ⟨h1, h2⟩ : GoodW w n ∧ GoodWs r m := h
    obtain ⟨a, b⟩ := good_words h2
    refine ⟨fun x hx => ?_, ?_⟩
    · rcases List.mem_cons.1 hx with rfl | hx
      · exact h1.1
      · exact a x hx
    · have := h1.2
      simp only [wlen, List.map_cons, List.sum_cons] at b ⊢
      omega
theorem good_line {ls : List (List UInt8)} {ns : List Nat} (h : GoodWs ls ns) (h0 : ls ≠ []) : goodL ls = true ∧ (lineT ls).length ≤ (ns.map (· + 1)).sum := by
  rw [goodL_iff, lineP_len ls h0]
  have := good_words h
  exact ⟨⟨h0, this.1⟩, this.2⟩
theorem nmAt_name {l : Lay} (h : nmsB l = true) {i : Int} (h0 : 0 ≤ i) (h1 : i < l.els.length) : nameB (nmAt l i) = true := by
  have hk : i.toNat < l.els.length := by omega
  unfold nmAt
  rw [List.getElem?_eq_getElem hk]
  unfold nmsB at h
  simp only [Bool.and_eq_true, List.all_eq_true] at h
  exact h.2.2.1 _ (List.getElem_mem hk)
theorem scAt_name {l : Lay} (h : nmsB l = true) {i : Int} (h0 : 0 ≤ i) (h1 : i < l.secs.length) : nameB (scAt l i) = true := by
  have hk : i.toNat < l.secs.length := by omega
  unfold scAt
  rw [List.getElem?_eq_getElem hk]
  unfold nmsB at h
  simp only [Bool.and_eq_true, List.all_eq_true] at h
  exact h.2.1 _ (List.getElem_mem hk)
theorem prt_ok {l : Lay} (h : chkL l = 0) (hj : l.jts.length ≤ 100) : ∃ t, prtL l = (t, 0) := by
  obtain ⟨hc, hn, he, hjn, hs, hb⟩ := chkL_ok h
  obtain ⟨hnm, _⟩ := nmC_ok hn
  have hjn := (jnC_ok hjn).1
  have hs := (sgC_ok hs).1
  have hb := (blC_ok hb).1
  unfold elB at he
  unfold cntB at hc
  simp only [Bool.and_eq_true, List.all_eq_true, inB_iff, decide_eq_true_eq] at hc he hjn hs hb
  have hnm2 := hnm
  unfold nmsB at hnm2
  simp only [Bool.and_eq_true, List.all_eq_true] at hnm2
  have lk : GoodW layoutW 6 := ⟨by decide, by decide⟩
  have sk : GoodW sectionW 7 := ⟨by decide, by decide⟩
  have tk : GoodW trackW 6 := ⟨by decide, by decide⟩
  have pk : GoodW pointsW 6 := ⟨by decide, by decide⟩
  have ck : GoodW crossW 6 := ⟨by decide, by decide⟩
  have jk : GoodW jointW 5 := ⟨by decide, by decide⟩
  have gk : GoodW signalW 6 := ⟨by decide, by decide⟩
  have bk : GoodW baliseW 6 := ⟨by decide, by decide⟩
  have g0 := good_line (ls := [layoutW, l.name]) (ns := [6, 12]) ⟨lk, (good_name hnm2.1), trivial⟩ (by simp)
  have g1 : ∀ x ∈ l.secs.map secW, goodL x = true ∧ (lineT x).length ≤ 21 := by
    intro x hx
    obtain ⟨s, hm, rfl⟩ := List.mem_map.1 hx
    exact good_line (ns := [7, 12]) ⟨sk, (good_name (hnm2.2.1 s hm)), trivial⟩ (by simp [secW])
  have g2 : ∀ x ∈ l.els.map (eltW l), goodL x = true ∧ (lineT x).length ≤ 121 := by
    intro x hx
    obtain ⟨e, hm, rfl⟩ := List.mem_map.1 hx
    obtain ⟨e1, e2, e3, e4, e5, e6, e7⟩ := eltB_iff (he.1 e hm)
    have n1 := good_name (hnm2.2.2.1 e hm)
    have n2 := good_name (scAt_name hnm e5.1 e5.2)
    have n3 := good_itoa (n := e.len) (by omega)
    have n4 := good_itoa (n := e.grd) (by omega)
    have n5 := good_itoa (n := e.spd) (by omega)
    have hk : GoodW (kwF e.kind) 6 := by
      rcases kw_cases (he.1 e hm) with ⟨_, hw⟩ | ⟨_, hw⟩ | ⟨_, hw⟩ <;> rw [hw] <;> assumption
    unfold eltW numsE
    by_cases h2 : e.kind = 2
    · rw [if_pos h2]
      have n6 := good_itoa (n := e.slow) (by have := e6 h2; omega)
      exact good_line (ns := [6, 12, 12, 21, 21, 21, 21]) ⟨hk, n1, n2, n3, n4, n5, n6, trivial⟩ (by simp)
    · rw [if_neg h2]
      have := good_line (ls := kwF e.kind :: e.name :: scAt l e.sec :: ([e.len, e.grd, e.spd]).map Lib.itoa) (ns := [6, 12, 12, 21, 21, 21]) ⟨hk, n1, n2, n3, n4, n5, trivial⟩ (by simp)
      exact ⟨this.1, Nat.le_trans this.2 (by decide)⟩
  have g3 : ∀ x ∈ l.jts.map (jntW l), goodL x = true ∧ (lineT x).length ≤ 76 := by
    intro x hx
    obtain ⟨j, hm, rfl⟩ := List.mem_map.1 hx
    obtain ⟨j1, j2, _⟩ := jntB_iff (hjn j hm)
    obtain ⟨⟨u1, u2⟩, u3, u4⟩ := exB_iff j1
    obtain ⟨⟨v1, v2⟩, v3, v4⟩ := exB_iff j2
    exact good_line (ns := [5, 12, 21, 12, 21]) ⟨jk, (good_name (nmAt_name hnm u1 u2)), (good_itoa (by omega)), (good_name (nmAt_name hnm v1 v2)), (good_itoa (by omega)), trivial⟩ (by simp [jntW])
  have g4 : ∀ x ∈ l.sgs.map (sgnW l), goodL x = true ∧ (lineT x).length ≤ 77 := by
    intro x hx
    obtain ⟨s, hm, rfl⟩ := List.mem_map.1 hx
    obtain ⟨j1, j2, j3⟩ := sgnB_iff (hs s hm)
    obtain ⟨⟨u1, u2⟩, u3, u4⟩ := exB_iff j1
    exact good_line (ns := [6, 12, 12, 21, 21]) ⟨gk, (good_name (hnm2.2.2.2 s hm)), (good_name (nmAt_name hnm u1 u2)), (good_itoa (by omega)), (good_itoa (by omega)), trivial⟩ (by simp [sgnW])
  have hlen : ∀ i, lenAt l i ≤ 9000000 := by
    intro i
    unfold lenAt
    cases hx : l.els[i.toNat]? with
    | none => simp
    | some e =>
      have := (eltB_iff (he.1 e (List.mem_of_getElem? hx))).2.1
      simp only [Option.map_some, Option.getD_some]
      omega
  have g5 : ∀ x ∈ l.bls.map (blsW l), goodL x = true ∧ (lineT x).length ≤ 64 := by
    intro x hx
    obtain ⟨b, hm, rfl⟩ := List.mem_map.1 hx
    obtain ⟨b1, ⟨u1, u2⟩, b2, b3⟩ := blsB_iff (hb b hm)
    have := hlen b.el
    exact good_line (ns := [6, 21, 12, 21]) ⟨bk, (good_itoa (by omega)), (good_name (nmAt_name hnm u1 u2)), (good_itoa (by omega)), trivial⟩ (by simp [blsW])
  unfold prtL
  rw [if_pos h]
  unfold joinF
  have hg : (linesL l).all goodL = true := by
    rw [List.all_eq_true]
    intro x hx
    rw [linesL, List.mem_cons, List.mem_append, List.mem_append, List.mem_append, List.mem_append] at hx
    rcases hx with rfl | hx | hx | hx | hx | hx
    · exact g0.1
    · exact (g1 x hx).1
    · exact (g2 x hx).1
    · exact (g3 x hx).1
    · exact (g4 x hx).1
    · exact (g5 x hx).1
  rw [if_pos hg]
  have t1 := textP_len _ _ fun x hx => (g1 x hx).2
  have t2 := textP_len _ _ fun x hx => (g2 x hx).2
  have t3 := textP_len _ _ fun x hx => (g3 x hx).2
  have t4 := textP_len _ _ fun x hx => (g4 x hx).2
  have t5 := textP_len _ _ fun x hx => (g5 x hx).2
  have t0 := g0.2
  rw [List.length_map] at t1 t2 t3 t4 t5
  have e0 : textOf (linesL l) = lineT [layoutW, l.name] ++ (textOf (l.secs.map secW) ++ (textOf (l.els.map (eltW l)) ++ (textOf (l.jts.map (jntW l)) ++ (textOf (l.sgs.map (sgnW l)) ++ textOf (l.bls.map (blsW l)))))) := by
    rw [← textOf_app, ← textOf_app, ← textOf_app, ← textOf_app, linesL]
    simp [textOf]
  have hle : ¬ 32768 < (textOf (linesL l)).length := by
    rw [e0]
    simp only [List.length_append]
    simp at t0
    omega
  rw [if_neg hle]
  exact ⟨_, rfl⟩
end Go.Proofs.YtopoknocfoiiaaaGreatDoor
namespace Go.Proofs.YtopoknocfoiiaaaGreatDoor
set_option linter.unusedVariables false
set_option linter.unusedSimpArgs false
/-- The first k of xs, then ys. -/
def mixL {α : Type} (xs ys : List α) (k : Nat) : List α := xs.take k ++ ys.drop k
section
variable {α : Type} {xs ys : List α} {k : Nat}
theorem mixL_zero : mixL xs ys 0 = ys := by simp [mixL]
theorem mixL_all (h : xs.length = ys.length) (hk : ¬ k < xs.length) : mixL xs ys k = xs := by
  unfold mixL
  rw [List.take_of_length_le (by omega), List.drop_of_length_le (by omega), List.append_nil]
theorem mixL_len (h : xs.length = ys.length) : (mixL xs ys k).length = xs.length := by simp [mixL]; omega
theorem mixL_set (h : xs.length = ys.length) (hk : k < xs.length) : (mixL xs ys k).set k xs[k] = mixL xs ys (k + 1) := by
  unfold mixL
  rw [List.set_append_right _ _ (by rw [List.length_take]; omega)]
  have e : k - (xs.take k).length = 0 := by simp; omega
  rw [e, List.drop_eq_getElem_cons (show k < ys.length by omega), List.set_cons_zero, List.take_succ_eq_append_getElem hk]
  rw [List.append_assoc]; rfl
theorem mixL_same (h : xs.length = ys.length) (hk : k < xs.length) (he : xs[k] = ys[k]'(by omega)) : mixL xs ys k = mixL xs ys (k + 1) := by
  unfold mixL
  rw [List.drop_eq_getElem_cons (show k < ys.length by omega), ← he, List.take_succ_eq_append_getElem hk]
  rw [List.append_assoc]; rfl
theorem mixL_get (h : xs.length = ys.length) (hk : k < xs.length) : (mixL xs ys k)[k]? = some (ys[k]'(by omega)) := by
  unfold mixL
  rw [List.getElem?_append_right (by rw [List.length_take]; omega)]
  have e : k - (xs.take k).length = 0 := by simp; omega
  rw [e, List.drop_eq_getElem_cons (show k < ys.length by omega)]
  rfl
end
def int1 (c : UInt8) (w : List UInt8) : Int := if c = 105 then (intF w).1 else 0
def intsF (f : List UInt8) (a : List (List UInt8)) : List Int := (f.zip a).map fun p => int1 p.1 p.2
def zerosF (a : List (List UInt8)) : List Int := List.replicate a.length 0
section
variable {l : Lay} {f : List UInt8} {a : List (List UInt8)} {k : Nat}
theorem intsF_len (h : f.length = a.length) : (intsF f a).length = a.length := by simp [intsF]; omega
theorem valsF_len (h : f.length = a.length) : (valsF l f a).length = a.length := by simp [valsF]; omega
theorem zerosF_len : (zerosF a).length = a.length := by simp [zerosF]
theorem intsF_at (hk : k < (intsF f a).length) (h1 : k < f.length) (h2 : k < a.length) : (intsF f a)[k] = int1 f[k] a[k] := by simp [intsF]
theorem valsF_at (hk : k < (valsF l f a).length) (h1 : k < f.length) (h2 : k < a.length) : (valsF l f a)[k] = valF l f[k] a[k] := by simp [valsF]
theorem zerosF_at (hk : k < (zerosF a).length) : (zerosF a)[k] = 0 := by simp [zerosF]
theorem zip_all {P : UInt8 × List UInt8 → Bool} (h : f.length = a.length) (hp : ∀ i (h1 : i < f.length) (h2 : i < a.length), P (f[i], a[i]) = true) : (f.zip a).all P = true := by
  rw [List.all_eq_true]
  intro x hx
  obtain ⟨i, hi, rfl⟩ := List.mem_iff_getElem.1 hx
  rw [List.getElem_zip]
  rw [List.length_zip] at hi
  exact hp i (by omega) (by omega)
theorem zip_no {P : UInt8 × List UInt8 → Bool} (h1 : k < f.length) (h2 : k < a.length) (hp : P (f[k], a[k]) = false) : (f.zip a).all P = false := by
  rw [Bool.eq_false_iff]
  intro h
  rw [List.all_eq_true] at h
  have := h (f[k], a[k]) (by rw [← List.getElem_zip (h := by rw [List.length_zip]; omega)]; exact List.getElem_mem _)
  rw [hp] at this
  cases this
theorem take_all_snoc {P : UInt8 × List UInt8 → Bool} (h1 : k < f.length) (h2 : k < a.length) (h : ((f.take k).zip (a.take k)).all P = true) (hp : P (f[k], a[k]) = true) : ((f.take (k + 1)).zip (a.take (k + 1))).all P = true := by
  rw [List.take_succ_eq_append_getElem h1, List.take_succ_eq_append_getElem h2, List.zip_append (by simp; omega), List.all_append, h]
  simp [hp]
end
/-- The tests of one word. -/
def iok (p : UInt8 × List UInt8) : Bool := decide (p.1 ≠ 105) || decide ((intF p.2).2 = 0)
def rok (l : Lay) (p : UInt8 × List UInt8) : Bool := decide (p.1 = 105) || decide (0 ≤ valF l p.1 p.2)
theorem intsOk_eq (f : List UInt8) (a : List (List UInt8)) : intsOk f a = (f.zip a).all iok := rfl
theorem refsOk_eq (l : Lay) (f : List UInt8) (a : List (List UInt8)) : refsOk l f a = (f.zip a).all (rok l) := rfl
theorem form_chars (w : List UInt8) : ∀ c ∈ formF w, c = 105 ∨ c = 110 ∨ c = 115 ∨ c = 101 := by
  unfold formF
  repeat' split
  all_goals simp
theorem form_len (w : List UInt8) : (formF w).length ≤ 6 := by
  unfold formF
  repeat' split
  all_goals simp
theorem valF_ge (l : Lay) (c : UInt8) (w : List UInt8) (h : c ≠ 105) : -1 ≤ valF l c w := by
  unfold valF
  rw [if_neg h]
  repeat' split
  · exact (idxA_ge _ _).1
  · exact (idxA_ge _ _).1
  · omega
/-! ### Growing by one -/
structure SmallL (l : Lay) (n : Nat) : Prop where
  s1 : l.secs.length ≤ n
  s2 : l.els.length ≤ n
  s3 : l.jts.length ≤ n
  s4 : l.sgs.length ≤ n
  s5 : l.bls.length ≤ n
theorem SmallL.zero : SmallL zL 0 := by constructor <;> simp [zL]
theorem SmallL.add {l : Lay} {n : Nat} (h : SmallL l n) (w : List UInt8) (a : List (List UInt8)) (v : List Int) : SmallL (addL l w a v) (n + 1) := by
  obtain ⟨h1, h2, h3, h4, h5⟩ := h
  unfold addL
  repeat' split
  all_goals (constructor <;> simp <;> omega)
theorem SmallL.read {l : Lay} {n : Nat} (h : SmallL l n) (p : Int) (ln : List (List UInt8)) : SmallL (readL l p ln).1 (n + 1) := by
  have h' : SmallL l (n + 1) := ⟨by have := h.s1; omega, by have := h.s2; omega, by have := h.s3; omega, by have := h.s4; omega, by have := h.s5; omega⟩
  unfold readL
  repeat' split
  all_goals first | exact h' | exact h.add _ _ _
/-- One more line of the reading. -/
theorem readK_bad {l : Lay} {p : Int} {n : Nat} {ln : List (List UInt8)} {r : Lns} (h : (readL l p ln).2.2 ≠ 0) : readK l p n (ln :: r) = (zL, n + 1, (readL l p ln).2.2) := by
  rw [readK, if_neg h]
theorem readK_good {l : Lay} {p : Int} {n : Nat} {ln : List (List UInt8)} {r : Lns} (h : (readL l p ln).2.2 = 0) : readK l p n (ln :: r) = readK (readL l p ln).1 (readL l p ln).2.1 (n + 1) r := by
  rw [readK, if_pos h]
/-- The ways a line is read. -/
theorem readL_fit {l : Lay} {p : Int} {ln : List (List UInt8)} (h : fitsB p ln = false) : readL l p ln = (l, p, 4) := by unfold readL; rw [if_pos h]
theorem readL_int {l : Lay} {p : Int} {ln : List (List UInt8)} (h : fitsB p ln = true) (h2 : intsOk (formF (ln.headD [])) ln.tail = false) : readL l p ln = (l, p, 4) := by unfold readL; rw [if_neg (by rw [h]; simp), if_pos h2]
theorem readL_ref {l : Lay} {p : Int} {ln : List (List UInt8)} (h : fitsB p ln = true) (h2 : intsOk (formF (ln.headD [])) ln.tail = true) (h3 : refsOk l (formF (ln.headD [])) ln.tail = false) : readL l p ln = (l, p, 9) := by unfold readL; rw [if_neg (by rw [h]; simp), if_neg (by rw [h2]; simp), if_pos h3]
theorem readL_yes {l : Lay} {p : Int} {ln : List (List UInt8)} (h : fitsB p ln = true) (h2 : intsOk (formF (ln.headD [])) ln.tail = true) (h3 : refsOk l (formF (ln.headD [])) ln.tail = true) : readL l p ln = (addL l (ln.headD []) ln.tail (valsF l (formF (ln.headD [])) ln.tail), placeF (ln.headD []), 0) := by unfold readL; rw [if_neg (by rw [h]; simp), if_neg (by rw [h2]; simp), if_neg (by rw [h3]; simp)]
end Go.Proofs.YtopoknocfoiiaaaGreatDoor
