/- The plain laws of lines, words, numbers, names and lists: over lists of bytes, no program in sight. -/
import Derived.Lib.SplitLaws
import Derived.Lib.Join
import Derived.Lib.ItoaLen
import Derived.Lib.AtoiAll
namespace Go.Proofs.YtlblfblkallnhaaGreatDoor
set_option linter.unusedVariables false
set_option linter.unusedSimpArgs false
open Go
/-! ### Splitting at a byte -/
/-- The parts of a text between the bytes c. -/
def spl (c : UInt8) : List UInt8 → List (List UInt8)
  | [] => [[]]
  | x :: r => if x = c then [] :: spl c r else (x :: (spl c r).headD []) :: (spl c r).tail
theorem spl_ne (c : UInt8) (l : List UInt8) : spl c l ≠ [] := by
  cases l with
  | nil => simp [spl]
  | cons x r => unfold spl; split <;> simp
theorem spl_eta (c : UInt8) (l : List UInt8) : (spl c l).headD [] :: (spl c l).tail = spl c l := by
  have := spl_ne c l
  cases h : spl c l with
  | nil => exact absurd h this
  | cons a t => rfl
theorem spl_no {c : UInt8} : ∀ {l : List UInt8}, c ∉ l → spl c l = [l]
  | [], _ => rfl
  | x :: r, h => by
    have h1 : ¬ x = c := fun e => h (by simp [e])
    have h2 : c ∉ r := fun e => h (by simp [e])
    unfold spl
    rw [if_neg h1, spl_no h2]
    rfl
theorem spl_cut {c : UInt8} : ∀ {a : List UInt8} (b : List UInt8), c ∉ a → spl c (a ++ c :: b) = a :: spl c b
  | [], b, _ => by simp [spl]
  | x :: r, b, h => by
    have h1 : ¬ x = c := fun e => h (by simp [e])
    have h2 : c ∉ r := fun e => h (by simp [e])
    rw [List.cons_append, spl, if_neg h1, spl_cut b h2]
    rfl
theorem at_or (c : UInt8) : ∀ l : List UInt8, c ∉ l ∨ ∃ a b, l = a ++ c :: b ∧ c ∉ a
  | [] => .inl (by simp)
  | x :: r => by
    by_cases h : x = c
    · exact .inr ⟨[], r, by simp [h], by simp⟩
    · rcases at_or c r with h1 | ⟨a, b, h1, h2⟩
      · exact .inl (by simp [h1]; exact fun e => h e.symm)
      · exact .inr ⟨x :: a, b, by simp [h1], by simp [h2]; exact fun e => h e.symm⟩
theorem join_spl (c : UInt8) (l : List UInt8) : Lib.join (spl c l) [c] = l := by
  induction l with
  | nil => simp [spl, Lib.join_one]
  | cons x r ih =>
    unfold spl
    split
    · rename_i h
      subst h
      have hne := spl_ne x r
      cases hs : spl x r with
      | nil => exact absurd hs hne
      | cons a t =>
        rw [hs, Lib.join_cons] at ih
        rw [Lib.join_cons]
        simp only [Lib.joinTail, List.map_cons, List.flatten_cons] at ih ⊢
        conv => rhs; rw [← ih]
        simp
    · have hne := spl_ne c r
      cases hs : spl c r with
      | nil => exact absurd hs hne
      | cons a t =>
        rw [hs, Lib.join_cons] at ih
        simp only [List.headD_cons, List.tail_cons, Lib.join_cons, List.cons_append]
        rw [ih]
theorem spl_join (c : UInt8) : ∀ (ws : List (List UInt8)), ws ≠ [] → (∀ w ∈ ws, c ∉ w) → spl c (Lib.join ws [c]) = ws
  | [], h, _ => absurd rfl h
  | [w], _, h => by rw [Lib.join_one]; exact spl_no (h w (by simp))
  | w :: v :: r, _, h => by
    rw [Lib.join_cons]
    have e : Lib.joinTail [c] (v :: r) = c :: Lib.join (v :: r) [c] := by rw [Lib.join_cons]; simp [Lib.joinTail]
    rw [e, spl_cut _ (h w (by simp)), spl_join c (v :: r) (by simp) (fun u hu => h u (by simp [hu]))]
/-! ### What the library's functions compute at a separator of one byte -/
theorem index_one (c : UInt8) : ∀ l : List UInt8, (c ∉ l → Lib.index l [c] = -1) ∧ ∀ a b, l = a ++ c :: b → c ∉ a → Lib.index l [c] = (a.length : Int)
  | [] => ⟨fun _ => by simp [Lib.index], fun a b h => by simp at h⟩
  | x :: r => by
    have hix : Lib.index (x :: r) [c] = if ([c] : List UInt8).isPrefixOf (x :: r) then 0 else if Lib.index r [c] == -1 then -1 else Lib.index r [c] + 1 := by rw [Lib.index]
    have ih := index_one c r
    refine ⟨fun h => ?_, fun a b h ha => ?_⟩
    · have h1 : ¬ x = c := fun e => h (by simp [e])
      rw [hix, if_neg (by simp [List.isPrefixOf]; exact fun e => h1 e.symm), ih.1 (fun e => h (by simp [e]))]
      rfl
    · cases a with
      | nil =>
        simp at h
        rw [hix, if_pos (by simp [List.isPrefixOf, h.1])]
        rfl
      | cons y a =>
        simp only [List.cons_append, List.cons.injEq] at h
        obtain ⟨rfl, h⟩ := h
        have h1 : ¬ x = c := fun e => ha (by simp [e])
        rw [hix, if_neg (by simp [List.isPrefixOf]; exact fun e => h1 e.symm), ih.2 a b h (fun e => ha (by simp [e])), if_neg (by simp)]
        simp
theorem contains_one (c : UInt8) (l : List UInt8) : Lib.contains l [c] = decide (c ∈ l) := by
  unfold Lib.contains
  rcases at_or c l with h | ⟨a, b, h, ha⟩
  · rw [(index_one c l).1 h]; simp [h]
  · rw [(index_one c l).2 a b h ha]
    have : c ∈ l := by rw [h]; simp
    simp [this]
theorem cut_no {c : UInt8} {l : List UInt8} (h : c ∉ l) : Lib.cut l [c] = (l, [], false) := by
  unfold Lib.cut
  rw [(index_one c l).1 h, if_neg (by decide)]
theorem cut_at {c : UInt8} {a b : List UInt8} (h : c ∉ a) : Lib.cut (a ++ c :: b) [c] = (a, b, true) := by
  unfold Lib.cut
  rw [(index_one c _).2 a b rfl h, if_pos (by omega)]
  simp
theorem splitK_spl (c : UInt8) : ∀ (k : Nat) (l : List UInt8), l.length ≤ k → Lib.splitK [c] 0 (Lib.count l [c]) l = spl c l := by
  intro k
  induction k with
  | zero =>
    intro l hl
    obtain rfl : l = [] := List.eq_nil_of_length_eq_zero (by omega)
    rw [Lib.count_miss ((index_one c []).1 (by simp))]
    rfl
  | succ k ih =>
    intro l hl
    rcases at_or c l with h | ⟨a, b, h, ha⟩
    · rw [Lib.count_miss ((index_one c l).1 h), spl_no h]
      rfl
    · have hi := (index_one c l).2 a b h ha
      have hd : l.drop (a.length + ([c] : List UInt8).length) = b := by rw [h]; simp
      have hl' : l.length = a.length + b.length + 1 := by rw [h]; simp; omega
      rw [Lib.count_hit (by simp) hi, hd, Nat.add_comm, Lib.splitK, hi, if_neg (by simp)]
      simp only [Int.toNat_natCast]
      rw [hd, ih b (by omega)]
      conv => rhs; rw [h, spl_cut b ha]
      rw [h]
      simp
/-! ### Words and lines -/
/-- Is a byte one of a word? -/
def chB (c : UInt8) : Bool := decide (33 ≤ c.toNat) && decide (c.toNat ≤ 126)
def wordB (w : List UInt8) : Bool := w.all chB && (decide (1 ≤ w.length) && decide (w.length ≤ 64))
/-- The look at a line, rune by rune: n is the length of the word so far. -/
def lnB : Nat → List UInt8 → Bool
  | n, [] => decide (0 < n)
  | n, c :: r => if c.toNat = 32 ∧ 0 < n then lnB 0 r else if (33 ≤ c.toNat ∧ c.toNat ≤ 126) ∧ n < 64 then lnB (n + 1) r else false
theorem lnB_gen : ∀ (l p : List UInt8), p.all chB = true → p.length ≤ 64 → lnB p.length l = ((p ++ (spl 32 l).headD []) :: (spl 32 l).tail).all wordB
  | [], p, hp, hl => by
    simp only [lnB, spl, List.headD_cons, List.tail_cons, List.append_nil, List.all_cons, List.all_nil, Bool.and_true, wordB, hp, Bool.true_and]
    rw [decide_eq_true hl, Bool.and_true]
    rfl
  | c :: r, p, hp, hl => by
    have eta := spl_eta 32 r
    by_cases h32 : c = 32
    · subst h32
      have ih := lnB_gen r [] (by simp) (by simp)
      simp only [List.length_nil, List.nil_append] at ih
      rw [eta] at ih
      have e32 : (32 : UInt8).toNat = 32 := rfl
      rw [lnB, spl, if_pos rfl]
      simp only [List.headD_cons, List.tail_cons, List.append_nil, List.all_cons]
      by_cases hz : 0 < p.length
      · rw [if_pos ⟨e32, hz⟩, ih]
        have : wordB p = true := by unfold wordB; rw [hp, decide_eq_true hl, decide_eq_true (show 1 ≤ p.length from hz)]; rfl
        rw [this, Bool.true_and]
      · rw [if_neg (fun h => hz h.2), if_neg (fun h => by rw [e32] at h; omega)]
        have : wordB p = false := by unfold wordB; rw [decide_eq_false (show ¬ 1 ≤ p.length from hz)]; simp
        rw [this, Bool.false_and]
    · have hn : ¬ (c.toNat = 32 ∧ 0 < p.length) := fun h => h32 (UInt8.toNat_inj.1 h.1)
      rw [lnB, if_neg hn, spl, if_neg h32]
      simp only [List.headD_cons, List.tail_cons]
      by_cases hc : (33 ≤ c.toNat ∧ c.toNat ≤ 126) ∧ p.length < 64
      · have ih := lnB_gen r (p ++ [c]) (by simp only [List.all_append, hp, List.all_cons, List.all_nil, chB, hc.1.1, hc.1.2]; rfl) (by simp; omega)
        rw [if_pos hc]
        simp only [List.length_append, List.length_cons, List.length_nil, List.append_assoc, List.cons_append, List.nil_append] at ih
        exact ih
      · rw [if_neg hc]
        have : wordB (p ++ c :: (spl 32 r).headD []) = false := by
          unfold wordB
          by_cases h1 : 33 ≤ c.toNat ∧ c.toNat ≤ 126
          · have : ¬ (p ++ c :: (spl 32 r).headD []).length ≤ 64 := by simp; omega
            rw [decide_eq_false this]; simp
          · have : chB c = false := by
              unfold chB
              by_cases h2 : 33 ≤ c.toNat
              · rw [decide_eq_false (show ¬ c.toNat ≤ 126 by omega)]; simp
              · rw [decide_eq_false h2]; rfl
            simp [this]
        rw [List.all_cons, this, Bool.false_and]
theorem lnB_words (l : List UInt8) : lnB 0 l = (spl 32 l).all wordB := by
  have h := lnB_gen l [] (by simp) (by simp)
  simp only [List.length_nil, List.nil_append] at h
  rw [spl_eta] at h
  exact h
theorem wordB_no {w : List UInt8} (h : wordB w = true) {c : UInt8} (hc : chB c = false) : c ∉ w := by
  intro hm
  unfold wordB at h
  simp only [Bool.and_eq_true, List.all_eq_true] at h
  rw [h.1 c hm] at hc
  cases hc
theorem wordB_len {w : List UInt8} (h : wordB w = true) : 1 ≤ w.length ∧ w.length ≤ 64 := by
  unfold wordB at h
  simp only [Bool.and_eq_true, decide_eq_true_eq] at h
  exact h.2
theorem word_line (w : List UInt8) : wordB w = (lnB 0 w && !Lib.contains w [32]) := by
  rw [lnB_words, contains_one]
  by_cases h : (32 : UInt8) ∈ w
  · have h1 : wordB w = false := by
      cases hw : wordB w with
      | false => rfl
      | true => exact absurd h (wordB_no hw (by decide))
    simp [h, h1]
  · rw [spl_no h]; simp [h]
/-! ### Lines -/
abbrev Lns := List (List (List UInt8))
/-- How a text is read: what was read, the words of the line so far, the word so far, and what is left. -/
def scan (out : Lns) (line : List (List UInt8)) (cur : List UInt8) : List UInt8 → Lns × Nat × Int
  | [] => if cur = [] ∧ line = [] then (out, 0, 0) else ([], out.length + 1, 4)
  | c :: r =>
    if c = 32 ∨ c = 10 then
      if wordB cur then (if c = 10 then scan (out ++ [line ++ [cur]]) [] [] r else scan out (line ++ [cur]) [] r)
      else ([], out.length + 1, 4)
    else scan out line (cur ++ [c]) r
def linesF (s : List UInt8) : Lns × Nat × Int := if 32768 < s.length then ([], 0, 2) else scan [] [] [] s
theorem scan_line (out : Lns) (rest : List UInt8) : ∀ (l : List UInt8) (l0 : List (List UInt8)) (cur : List UInt8), (10 : UInt8) ∉ l →
    scan out l0 cur (l ++ 10 :: rest) = if ((cur ++ (spl 32 l).headD []) :: (spl 32 l).tail).all wordB then scan (out ++ [l0 ++ ((cur ++ (spl 32 l).headD []) :: (spl 32 l).tail)]) [] [] rest else ([], out.length + 1, 4)
  | [], l0, cur, _ => by
    simp only [List.nil_append, scan, or_true, if_true, spl, List.headD_cons, List.tail_cons, List.append_nil, List.all_cons, List.all_nil, Bool.and_true]
  | c :: r, l0, cur, h => by
    have h1 : ¬ c = 10 := fun e => h (by simp [e])
    have h2 : (10 : UInt8) ∉ r := fun e => h (by simp [e])
    rw [List.cons_append, scan]
    by_cases h32 : c = 32
    · subst h32
      rw [if_pos (Or.inl rfl), spl, if_pos rfl]
      simp only [List.headD_cons, List.tail_cons, List.append_nil, List.all_cons]
      by_cases hw : wordB cur = true
      · rw [if_pos hw, if_neg h1, scan_line out rest r _ _ h2, List.nil_append, spl_eta, hw, Bool.true_and]
        simp only [List.append_assoc, List.cons_append, List.nil_append]
      · rw [if_neg hw]
        have hw' : wordB cur = false := by simpa using hw
        rw [hw', Bool.false_and, if_neg (by simp)]
    · rw [if_neg (by simp [h32, h1]), scan_line out rest r _ _ h2, spl, if_neg h32]
      simp only [List.headD_cons, List.tail_cons, List.append_assoc, List.cons_append, List.nil_append]
      rfl
theorem scan_last (out : Lns) : ∀ (l : List UInt8) (l0 : List (List UInt8)) (cur : List UInt8), (10 : UInt8) ∉ l →
    scan out l0 cur l = if (cur = [] ∧ l0 = []) ∧ l = [] then (out, 0, 0) else ([], out.length + 1, 4)
  | [], l0, cur, _ => by simp [scan]
  | c :: r, l0, cur, h => by
    have h1 : ¬ c = 10 := fun e => h (by simp [e])
    have h2 : (10 : UInt8) ∉ r := fun e => h (by simp [e])
    rw [scan]
    by_cases h32 : c = 32
    · rw [if_pos (Or.inl h32), if_neg h1, scan_last out r _ _ h2]
      simp
    · rw [if_neg (by simp [h32, h1]), scan_last out r _ _ h2]
      simp
/-- A whole line. -/
theorem scan_cut (out : Lns) (l rest : List UInt8) (h : (10 : UInt8) ∉ l) : scan out [] [] (l ++ 10 :: rest) = if lnB 0 l then scan (out ++ [spl 32 l]) [] [] rest else ([], out.length + 1, 4) := by
  rw [scan_line out rest l [] [] h, List.nil_append, spl_eta, lnB_words, List.nil_append]
theorem scan_end (out : Lns) (l : List UInt8) (h : (10 : UInt8) ∉ l) (hne : l ≠ []) : scan out [] [] l = ([], out.length + 1, 4) := by
  rw [scan_last out l [] [] h, if_neg (fun e => hne e.2)]
/-! ### Texts -/
def lineT (ws : List (List UInt8)) : List UInt8 := Lib.join ws [32] ++ [10]
def textOf (ls : Lns) : List UInt8 := (ls.map lineT).flatten
def goodL (l : List (List UInt8)) : Bool := !l.isEmpty && l.all wordB
def joinF (ls : Lns) : List UInt8 × Int := if ls.all goodL then (if 32768 < (textOf ls).length then ([], 2) else (textOf ls, 0)) else ([], 1)
theorem goodL_iff {l : List (List UInt8)} : goodL l = true ↔ l ≠ [] ∧ ∀ w ∈ l, wordB w = true := by
  unfold goodL
  cases l <;> simp
theorem join_no10 {l : List (List UInt8)} (h : ∀ w ∈ l, wordB w = true) : (10 : UInt8) ∉ Lib.join l [32] := by
  cases l with
  | nil => simp [Lib.join_nil]
  | cons x r =>
    rw [Lib.join_cons]
    intro hm
    rw [List.mem_append] at hm
    rcases hm with hm | hm
    · exact wordB_no (h x (by simp)) (by decide) hm
    · unfold Lib.joinTail at hm
      rw [List.mem_flatten] at hm
      obtain ⟨y, hy, hm⟩ := hm
      rw [List.mem_map] at hy
      obtain ⟨u, hu, rfl⟩ := hy
      simp only [List.cons_append, List.nil_append, List.mem_cons] at hm
      rcases hm with hm | hm
      · exact absurd hm (by decide)
      · exact wordB_no (h u (by simp [hu])) (by decide) hm
theorem spl_line {l : List (List UInt8)} (h : goodL l = true) : spl 32 (Lib.join l [32]) = l ∧ lnB 0 (Lib.join l [32]) = true ∧ (10 : UInt8) ∉ Lib.join l [32] := by
  obtain ⟨h1, h2⟩ := goodL_iff.1 h
  have e := spl_join 32 l h1 (fun w hw => wordB_no (h2 w hw) (by decide))
  refine ⟨e, ?_, join_no10 h2⟩
  rw [lnB_words, e]
  simpa using h2
theorem scan_text : ∀ (ls out : Lns) (rest : List UInt8), ls.all goodL = true → scan out [] [] (textOf ls ++ rest) = scan (out ++ ls) [] [] rest
  | [], out, rest, _ => by simp [textOf]
  | l :: ls, out, rest, h => by
    simp only [List.all_cons, Bool.and_eq_true] at h
    obtain ⟨e1, e2, e3⟩ := spl_line h.1
    have : textOf (l :: ls) ++ rest = Lib.join l [32] ++ 10 :: (textOf ls ++ rest) := by simp [textOf, lineT]
    rw [this, scan_cut _ _ _ e3, if_pos e2, e1, scan_text ls _ _ h.2]
    simp
theorem scan_text0 (ls out : Lns) (h : ls.all goodL = true) : scan out [] [] (textOf ls) = (out ++ ls, 0, 0) := by
  have := scan_text ls out [] h
  rw [List.append_nil] at this
  rw [this]
  rfl
/-- Lines are restored from their text. -/
theorem lines_join {ls : Lns} {t : List UInt8} (h : joinF ls = (t, 0)) : linesF t = (ls, 0, 0) := by
  unfold joinF at h
  split at h
  · rename_i hg
    split at h
    · simp at h
    · rename_i hl
      simp only [Prod.mk.injEq, and_true] at h
      subst h
      unfold linesF
      rw [if_neg hl, scan_text0 _ _ hg]
      simp
  · simp at h
theorem scan_ok : ∀ (k : Nat) (s : List UInt8) (out m : Lns) (n : Nat), s.length ≤ k → scan out [] [] s = (m, n, 0) → ∃ ls : Lns, m = out ++ ls ∧ ls.all goodL = true ∧ s = textOf ls ∧ n = 0
  | 0, s, out, m, n, hl, h => by
    obtain rfl : s = [] := List.eq_nil_of_length_eq_zero (by omega)
    simp [scan] at h
    exact ⟨[], by simp [h.1], rfl, rfl, by simp [h.2]⟩
  | k + 1, s, out, m, n, hl, h => by
    rcases at_or 10 s with h1 | ⟨a, b, rfl, h1⟩
    · by_cases hs : s = []
      · subst hs
        simp [scan] at h
        exact ⟨[], by simp [h.1], rfl, rfl, by simp [h.2]⟩
      · rw [scan_end _ _ h1 hs] at h
        simp at h
    · rw [scan_cut _ _ _ h1] at h
      split at h
      · rename_i hg
        obtain ⟨ls, e1, e2, e3, e4⟩ := scan_ok k b _ m n (by simp at hl; omega) h
        refine ⟨spl 32 a :: ls, by simp [e1], ?_, ?_, e4⟩
        · rw [List.all_cons, e2, Bool.and_true]
          rw [lnB_words] at hg
          exact goodL_iff.2 ⟨spl_ne _ _, by simpa using hg⟩
        · rw [e3]
          simp [textOf, lineT, join_spl]
      · simp at h
theorem lines_ok {s : List UInt8} {m : Lns} {n : Nat} (h : linesF s = (m, n, 0)) : m.all goodL = true ∧ s = textOf m ∧ n = 0 ∧ s.length ≤ 32768 := by
  unfold linesF at h
  split at h
  · simp at h
  · rename_i hl
    obtain ⟨ls, e1, e2, e3, e4⟩ := scan_ok s.length s _ m n (Nat.le_refl _) h
    simp only [List.nil_append] at e1
    subst e1
    exact ⟨e2, e3, e4, by omega⟩
/-- A text that is accepted is the text of its lines. -/
theorem join_lines {s : List UInt8} {m : Lns} {n : Nat} (h : linesF s = (m, n, 0)) : joinF m = (s, 0) := by
  obtain ⟨h1, h2, h3, h4⟩ := lines_ok h
  unfold joinF
  rw [if_pos h1, if_neg (by rw [← h2]; omega), ← h2]
theorem scan_code (out : Lns) : ∀ (l : List UInt8) (l0 : List (List UInt8)) (cur : List UInt8), (scan out l0 cur l).2.2 = 0 ∨ (scan out l0 cur l).2.2 = 4 := by
  intro l
  induction l generalizing out with
  | nil => intro l0 cur; unfold scan; split <;> simp
  | cons c r ih =>
    intro l0 cur
    unfold scan
    split
    · split
      · split
        · exact ih _ _ _
        · exact ih _ _ _
      · simp
    · exact ih _ _ _
end Go.Proofs.YtlblfblkallnhaaGreatDoor
