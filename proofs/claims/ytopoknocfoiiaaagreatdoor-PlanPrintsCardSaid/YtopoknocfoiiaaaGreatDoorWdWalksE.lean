/- The walks of List, FormatList and their references. -/
import Derived.Test.YtopoknocfoiiaaaGreatDoorWdWalksD
namespace Go.Proofs.YtopoknocfoiiaaaGreatDoor
set_option linter.unusedVariables false
set_option linter.unusedSimpArgs false
open Go.RowKit
attribute [local go_sem] bs_size bs_get bs_append bs_extract bs_toList
theorem infoInt : (Tryz.prog.info? 3).map (fun i => (i.zero, i.size, i.bytes)) = some (some (.int .i64 0), 1, 8) := by kernel_rfl
theorem infoStr : (Tryz.prog.info? 9).map (fun i => (i.zero, i.size, i.bytes)) = some (some (.string ByteArray.empty), 1, 16) := by kernel_rfl
theorem infoStrs : (Tryz.prog.info? 22).map (fun i => (i.zero, i.size, i.bytes)) = some (some (.slice none 0 0), 1, 24) := by kernel_rfl
theorem spl_part {c : UInt8} : ∀ {l p : List UInt8}, p ∈ spl c l → p.length ≤ l.length
  | [], p, h => by simp [spl] at h; simp [h]
  | x :: r, p, h => by
    have hne := spl_ne c r
    cases hs : spl c r with
    | nil => exact absurd hs hne
    | cons a t =>
      have ih := fun (q : List UInt8) (hq : q ∈ spl c r) => spl_part hq
      rw [hs] at ih
      unfold spl at h
      rw [hs] at h
      split at h
      · simp only [List.mem_cons] at h
        rcases h with rfl | h | h
        · simp
        · have := ih p (by simp [h]); simp; omega
        · have := ih p (by simp [h]); simp; omega
      · simp only [List.headD_cons, List.tail_cons, List.mem_cons] at h
        rcases h with rfl | h
        · have := ih a (by simp); simp; omega
        · have := ih p (by simp [h]); simp; omega
theorem spl_count {c : UInt8} : ∀ (l : List UInt8), (spl c l).length ≤ l.length + 1
  | [] => by simp [spl]
  | x :: r => by
    have ih := spl_count (c := c) r
    have hne := spl_ne c r
    unfold spl
    split
    · simp; omega
    · simp
      have : 0 < (spl c r).length := List.length_pos_iff.2 hne
      omega
/-- strings.Split: a new row that reads as the parts. -/
theorem split_rd (c : UInt8) (s : List UInt8) (w : World) (E : Env w) (hs : s.length ≤ 1000000000) :
    Calls Tryz.prog 46 #[.string (bs s), .string (bs [c])] w fun e w' => ∃ A, e = .returned (.slice A (spl c s).length (spl c s).length) ∧ RdS cS w' (Lt w') A (spl c s) ∧ Below w.heap.size w w' ∧ w.heap.size < w'.heap.size := by
  refine (split_any c s w E (by omega)).mono ?_
  rintro e w' ⟨h, rfl⟩
  refine ⟨_, h, rds_new w _ _ _ rfl (fun x hx => ?_) _ (show _ < _ by simp), (Below.refl _ _).alloc (Nat.le_refl _) _, by simp⟩
  have := spl_part hx
  unfold maxLen
  omega
theorem listK_step (acc : List Int) (p : List UInt8) (r : List (List UInt8)) : listK acc (p :: r) = if (intF p).2 = 0 then listK (acc ++ [(intF p).1]) r else ([], (intF p).2) := rfl
theorem intF_range (p : List UInt8) : I64n (intF p).1 ∧ 0 ≤ (intF p).2 ∧ (intF p).2 ≤ 17 := by
  have z : I64n 0 := ⟨by decide, by decide⟩
  have key : ∀ r : Int × Int, (r = (0, 4) ∨ r = (0, 17) ∨ (I64n r.1 ∧ r.2 = 0)) → I64n r.1 ∧ 0 ≤ r.2 ∧ r.2 ≤ 17 := by
    rintro ⟨a, b⟩ (h | h | ⟨h, h2⟩)
    · cases h; exact ⟨z, by decide, by decide⟩
    · cases h; exact ⟨z, by decide, by decide⟩
    · simp only at h2; subst h2; exact ⟨h, by simp, by simp⟩
  apply key
  rw [intF_eq]
  by_cases h1 : digB (digOf p) = false ∨ (p.head? = some 45 ∧ digOf p = [48])
  · rw [if_pos h1]; exact .inl rfl
  · rw [if_neg h1]
    by_cases h2 : p.head? = some 45
    · rw [if_pos h2]
      by_cases h3 : val (digOf p) ≤ 9223372036854775808
      · rw [if_pos h3]; exact .inr (.inr ⟨⟨by simp only; omega, by simp only; omega⟩, rfl⟩)
      · rw [if_neg h3]; exact .inr (.inl rfl)
    · rw [if_neg h2]
      by_cases h3 : val (digOf p) < 9223372036854775808
      · rw [if_pos h3]; exact .inr (.inr ⟨⟨by simp only; omega, by simp only; omega⟩, rfl⟩)
      · rw [if_neg h3]; exact .inr (.inl rfl)
/-- The result of List. -/
def ListPost (w : World) (r : List Int × Int) (e : Ending) (w' : World) : Prop :=
  ∃ A cap, e = .returned (.tuple #[.slice A r.1.length cap, .int .i64 r.2]) ∧ RdS cI w' (Lt w') A r.1 ∧ Below w.heap.size w w'
/-! ### The reference's List -/
def LR (s : List UInt8) (acc : List Int) (f k : Nat) : Prop :=
  (k ≤ s.length ∧ f ≤ k ∧ listK acc ((((s.take k).drop f) ++ (spl 44 (s.drop k)).headD []) :: (spl 44 (s.drop k)).tail) = listF s) ∨ (k = s.length + 1 ∧ listF s = (acc, 0))
theorem LR_start {s : List UInt8} (h : ¬ s = [45]) : LR s [] 0 0 := .inl ⟨Nat.zero_le _, Nat.le_refl _, by
  unfold listF
  rw [if_neg h]
  simp only [List.take_zero, List.drop_zero, List.nil_append]
  rw [spl_eta]⟩
theorem drop_take_snoc {s : List UInt8} {f k : Nat} (hf : f ≤ k) (hk : k < s.length) : (s.take (k + 1)).drop f = (s.take k).drop f ++ [s[k]] := by
  rw [take_snoc s k hk, List.drop_append_of_le_length (by rw [List.length_take]; omega)]
theorem LR_char {s : List UInt8} {acc : List Int} {f k : Nat} (h : LR s acc f k) (hk : k < s.length) (hc : s[k] ≠ 44) : LR s acc f (k + 1) := by
  rcases h with ⟨h1, h2, h3⟩ | ⟨h1, _⟩
  · refine .inl ⟨by omega, by omega, ?_⟩
    rw [List.drop_eq_getElem_cons hk, spl, if_neg hc] at h3
    rw [drop_take_snoc h2 hk, ← h3]
    simp only [List.headD_cons, List.tail_cons, List.append_assoc, List.cons_append, List.nil_append]
  · omega
theorem LR_word {s : List UInt8} {acc : List Int} {f k : Nat} (h : LR s acc f k) (hk : k < s.length) (hc : s[k] = 44) :
    ((intF ((s.take k).drop f)).2 = 0 → LR s (acc ++ [(intF ((s.take k).drop f)).1]) (k + 1) (k + 1)) ∧ ((intF ((s.take k).drop f)).2 ≠ 0 → listF s = ([], (intF ((s.take k).drop f)).2)) := by
  rcases h with ⟨h1, h2, h3⟩ | ⟨h1, _⟩
  · rw [List.drop_eq_getElem_cons hk, spl, if_pos hc] at h3
    simp only [List.headD_cons, List.tail_cons, List.append_nil] at h3
    rw [listK_step] at h3
    refine ⟨fun h0 => .inl ⟨by omega, Nat.le_refl _, ?_⟩, fun h0 => ?_⟩
    · rw [if_pos h0] at h3
      have e : (s.take (k + 1)).drop (k + 1) = [] := List.drop_of_length_le (by rw [List.length_take]; omega)
      rw [e, List.nil_append, spl_eta]
      exact h3
    · rw [if_neg h0] at h3
      exact h3.symm
  · omega
theorem LR_last {s : List UInt8} {acc : List Int} {f : Nat} (h : LR s acc f s.length) :
    ((intF ((s.take s.length).drop f)).2 = 0 → LR s (acc ++ [(intF ((s.take s.length).drop f)).1]) (s.length + 1) (s.length + 1)) ∧ ((intF ((s.take s.length).drop f)).2 ≠ 0 → listF s = ([], (intF ((s.take s.length).drop f)).2)) := by
  rcases h with ⟨h1, h2, h3⟩ | ⟨h1, _⟩
  · rw [List.drop_of_length_le (Nat.le_refl _)] at h3
    simp only [spl, List.headD_cons, List.tail_cons, List.append_nil] at h3
    rw [listK_step] at h3
    refine ⟨fun h0 => .inr ⟨rfl, ?_⟩, fun h0 => ?_⟩
    · rw [if_pos h0] at h3
      exact h3.symm
    · rw [if_neg h0] at h3
      exact h3.symm
  · omega
theorem LR_end {s : List UInt8} {acc : List Int} {f k : Nat} (h : LR s acc f k) (hk : ¬ k ≤ s.length) : listF s = (acc, 0) := by
  rcases h with ⟨h1, _⟩ | ⟨_, h2⟩
  · omega
  · exact h2
theorem LR_le {s : List UInt8} {acc : List Int} {f k : Nat} (h : LR s acc f k) (hk : k ≤ s.length) : f ≤ k := by
  rcases h with ⟨_, h1, _⟩ | ⟨h2, _⟩
  · exact h1
  · omega
/-! ### FormatList -/
theorem join_snoc (sep x : List UInt8) : ∀ (xs : List (List UInt8)), xs ≠ [] → Lib.join (xs ++ [x]) sep = Lib.join xs sep ++ sep ++ x
  | [], h => absurd rfl h
  | y :: r, _ => by rw [List.cons_append, Lib.join_cons, Lib.join_cons]; simp [Lib.joinTail]
/-- The text of the first numbers of a list. -/
def fmtP (l : List Int) (k : Nat) : List UInt8 := Lib.join ((l.take k).map Lib.itoa) [44]
theorem fmtP_zero (l : List Int) : fmtP l 0 = [] := rfl
theorem fmtP_one (l : List Int) (h : 0 < l.length) : fmtP l 1 = Lib.itoa l[0] := by
  cases l with
  | nil => simp at h
  | cons a t => simp [fmtP, Lib.join_one]
theorem fmtP_succ (l : List Int) (k : Nat) (hk : 0 < k) (h : k < l.length) : fmtP l (k + 1) = fmtP l k ++ [44] ++ Lib.itoa l[k] := by
  unfold fmtP
  rw [List.take_succ_eq_append_getElem h, List.map_append, List.map_cons, List.map_nil, join_snoc]
  intro e
  have := congrArg List.length e
  rw [List.length_map, List.length_take, List.length_nil] at this
  omega
theorem fmtP_all (l : List Int) (k : Nat) (h : ¬ k < l.length) (hne : l ≠ []) : fmtP l k = fmtF l := by
  unfold fmtP fmtF
  rw [if_neg hne, List.take_of_length_le (by omega)]
theorem itoa_len {n : Int} (h : I64n n) : (Lib.itoa n).length ≤ 21 := Lib.itoa_length_le n h.1 h.2
theorem fmtP_len (l : List Int) (hl : ∀ n ∈ l, I64n n) : ∀ k, k ≤ l.length → (fmtP l k).length ≤ 22 * k
  | 0, _ => by simp [fmtP_zero]
  | k + 1, h => by
    have ih := fmtP_len l hl k (by omega)
    have h1 := itoa_len (hl l[k] (List.getElem_mem (by omega)))
    rcases Nat.eq_zero_or_pos k with hz | hz
    · subst hz
      rw [fmtP_one l (by omega)]
      omega
    · rw [fmtP_succ l k hz (by omega)]
      simp
      omega
theorem fmtP_gt0 (l : List Int) (k : Nat) (hk : 0 < k) (h : k < l.length) : fmtP l (k + 1) = fmtP l k ++ 44 :: Lib.itoa l[k] := by rw [fmtP_succ l k hk h]; simp
theorem infoByteC : (Tryz.prog.info? 5).map (fun i => (i.zero, i.size, i.bytes)) = some (some (.int .u8 0), 1, 1) := by kernel_rfl
theorem rdI_all {w : World} {S : Nat → Prop} {A : Option Addr} {l : List Int} (h : RdS cI w S A l) : ∀ n ∈ l, I64n n := by
  intro n hn
  obtain ⟨i, hi⟩ := List.getElem?_of_mem hn
  obtain ⟨b, off, _, hc⟩ := h.pick rfl
  obtain ⟨u, hu, _⟩ := hc i n hi
  exact (cI_cell hu).2
end Go.Proofs.YtopoknocfoiiaaaGreatDoor
