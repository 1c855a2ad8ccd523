/- The walks of List, FormatList and their references. The walks of Lines and its reference. -/
import Derived.Test.YtlblfblkallnhaaGreatDoorWdCD
namespace Go.Proofs.YtlblfblkallnhaaGreatDoor
set_option linter.unusedVariables false
set_option linter.unusedSimpArgs false
open Go.RowKit
attribute [local go_sem] bs_size bs_get bs_append bs_extract bs_toList
theorem infoInt : (Tryz.prog.info? 3).map (fun i => (i.zero, i.size, i.bytes)) = some (some (.int .i64 0), 1, 8) := by kernel_rfl
theorem infoStr : (Tryz.prog.info? 9).map (fun i => (i.zero, i.size, i.bytes)) = some (some (.string ByteArray.empty), 1, 16) := by kernel_rfl
theorem infoStrs : (Tryz.prog.info? 46).map (fun i => (i.zero, i.size, i.bytes)) = some (some (.slice none 0 0), 1, 24) := by kernel_rfl
theorem spl_part {c : UInt8} : ∀ {l p : List UInt8}, p ∈ spl c l → p.length ≤ l.length
  | [], p, h => by simp [spl] at h; simp [h]
  | x :: r, p, h => by
    have hne := spl_ne c r
    cases hs : spl c r with
    | nil => exact absurd hs hne
    | cons a t =>
      have ih := fun (q : List UInt8) (hq : q ∈ spl c r) => spl_part hq
      rw [hs] at ih
      unfold spl at h
      rw [hs] at h
      split at h
      · simp only [List.mem_cons] at h
        rcases h with rfl | h | h
        · simp
        · have := ih p (by simp [h]); simp; omega
        · have := ih p (by simp [h]); simp; omega
      · simp only [List.headD_cons, List.tail_cons, List.mem_cons] at h
        rcases h with rfl | h
        · have := ih a (by simp); simp; omega
        · have := ih p (by simp [h]); simp; omega
theorem spl_count {c : UInt8} : ∀ (l : List UInt8), (spl c l).length ≤ l.length + 1
  | [] => by simp [spl]
  | x :: r => by
    have ih := spl_count (c := c) r
    have hne := spl_ne c r
    unfold spl
    split
    · simp; omega
    · simp
      have : 0 < (spl c r).length := List.length_pos_iff.2 hne
      omega
/-- strings.Split: a new row that reads as the parts. -/
theorem split_rd (c : UInt8) (s : List UInt8) (w : World) (E : Env w) (hs : s.length ≤ 1000000000) :
    Calls Tryz.prog 40 #[.string (bs s), .string (bs [c])] w fun e w' => ∃ A, e = .returned (.slice A (spl c s).length (spl c s).length) ∧ RdS cS w' (Lt w') A (spl c s) ∧ Below w.heap.size w w' ∧ w.heap.size < w'.heap.size := by
  refine (split_any c s w E (by omega)).mono ?_
  rintro e w' ⟨h, rfl⟩
  refine ⟨_, h, rds_new w _ _ _ rfl (fun x hx => ?_) _ (show _ < _ by simp), (Below.refl _ _).alloc (Nat.le_refl _) _, by simp⟩
  have := spl_part hx
  unfold maxLen
  omega
theorem listK_step (acc : List Int) (p : List UInt8) (r : List (List UInt8)) : listK acc (p :: r) = if (intF p).2 = 0 then listK (acc ++ [(intF p).1]) r else ([], (intF p).2) := rfl
theorem intF_range (p : List UInt8) : I64n (intF p).1 ∧ 0 ≤ (intF p).2 ∧ (intF p).2 ≤ 17 := by
  have z : I64n 0 := ⟨by decide, by decide⟩
  have key : ∀ r : Int × Int, (r = (0, 4) ∨ r = (0, 17) ∨ (I64n r.1 ∧ r.2 = 0)) → I64n r.1 ∧ 0 ≤ r.2 ∧ r.2 ≤ 17 := by
    rintro ⟨a, b⟩ (h | h | ⟨h, h2⟩)
    · cases h; exact ⟨z, by decide, by decide⟩
    · cases h; exact ⟨z, by decide, by decide⟩
    · simp only at h2; subst h2; exact ⟨h, by simp, by simp⟩
  apply key
  rw [intF_eq]
  by_cases h1 : digB (digOf p) = false ∨ (p.head? = some 45 ∧ digOf p = [48])
  · rw [if_pos h1]; exact .inl rfl
  · rw [if_neg h1]
    by_cases h2 : p.head? = some 45
    · rw [if_pos h2]
      by_cases h3 : val (digOf p) ≤ 9223372036854775808
      · rw [if_pos h3]; exact .inr (.inr ⟨⟨by simp only; omega, by simp only; omega⟩, rfl⟩)
      · rw [if_neg h3]; exact .inr (.inl rfl)
    · rw [if_neg h2]
      by_cases h3 : val (digOf p) < 9223372036854775808
      · rw [if_pos h3]; exact .inr (.inr ⟨⟨by simp only; omega, by simp only; omega⟩, rfl⟩)
      · rw [if_neg h3]; exact .inr (.inl rfl)
/-- The result of List. -/
def ListPost (w : World) (r : List Int × Int) (e : Ending) (w' : World) : Prop :=
  ∃ A cap, e = .returned (.tuple #[.slice A r.1.length cap, .int .i64 r.2]) ∧ RdS cI w' (Lt w') A r.1 ∧ Below w.heap.size w w'
/-! ### The reference's List -/
def LR (s : List UInt8) (acc : List Int) (f k : Nat) : Prop :=
  (k ≤ s.length ∧ f ≤ k ∧ listK acc ((((s.take k).drop f) ++ (spl 44 (s.drop k)).headD []) :: (spl 44 (s.drop k)).tail) = listF s) ∨ (k = s.length + 1 ∧ listF s = (acc, 0))
theorem LR_start {s : List UInt8} (h : ¬ s = [45]) : LR s [] 0 0 := .inl ⟨Nat.zero_le _, Nat.le_refl _, by
  unfold listF
  rw [if_neg h]
  simp only [List.take_zero, List.drop_zero, List.nil_append]
  rw [spl_eta]⟩
theorem drop_take_snoc {s : List UInt8} {f k : Nat} (hf : f ≤ k) (hk : k < s.length) : (s.take (k + 1)).drop f = (s.take k).drop f ++ [s[k]] := by
  rw [take_snoc s k hk, List.drop_append_of_le_length (by rw [List.length_take]; omega)]
theorem LR_char {s : List UInt8} {acc : List Int} {f k : Nat} (h : LR s acc f k) (hk : k < s.length) (hc : s[k] ≠ 44) : LR s acc f (k + 1) := by
  rcases h with ⟨h1, h2, h3⟩ | ⟨h1, _⟩
  · refine .inl ⟨by omega, by omega, ?_⟩
    rw [List.drop_eq_getElem_cons hk, spl, if_neg hc] at h3
    rw [drop_take_snoc h2 hk, ← h3]
    simp only [List.headD_cons, List.tail_cons, List.append_assoc, List.cons_append, List.nil_append]
  · omega
theorem LR_word {s : List UInt8} {acc : List Int} {f k : Nat} (h : LR s acc f k) (hk : k < s.length) (hc : s[k] = 44) :
    ((intF ((s.take k).drop f)).2 = 0 → LR s (acc ++ [(intF ((s.take k).drop f)).1]) (k + 1) (k + 1)) ∧ ((intF ((s.take k).drop f)).2 ≠ 0 → listF s = ([], (intF ((s.take k).drop f)).2)) := by
  rcases h with ⟨h1, h2, h3⟩ | ⟨h1, _⟩
  · rw [List.drop_eq_getElem_cons hk, spl, if_pos hc] at h3
    simp only [List.headD_cons, List.tail_cons, List.append_nil] at h3
    rw [listK_step] at h3
    refine ⟨fun h0 => .inl ⟨by omega, Nat.le_refl _, ?_⟩, fun h0 => ?_⟩
    · rw [if_pos h0] at h3
      have e : (s.take (k + 1)).drop (k + 1) = [] := List.drop_of_length_le (by rw [List.length_take]; omega)
      rw [e, List.nil_append, spl_eta]
      exact h3
    · rw [if_neg h0] at h3
      exact h3.symm
  · omega
theorem LR_last {s : List UInt8} {acc : List Int} {f : Nat} (h : LR s acc f s.length) :
    ((intF ((s.take s.length).drop f)).2 = 0 → LR s (acc ++ [(intF ((s.take s.length).drop f)).1]) (s.length + 1) (s.length + 1)) ∧ ((intF ((s.take s.length).drop f)).2 ≠ 0 → listF s = ([], (intF ((s.take s.length).drop f)).2)) := by
  rcases h with ⟨h1, h2, h3⟩ | ⟨h1, _⟩
  · rw [List.drop_of_length_le (Nat.le_refl _)] at h3
    simp only [spl, List.headD_cons, List.tail_cons, List.append_nil] at h3
    rw [listK_step] at h3
    refine ⟨fun h0 => .inr ⟨rfl, ?_⟩, fun h0 => ?_⟩
    · rw [if_pos h0] at h3
      exact h3.symm
    · rw [if_neg h0] at h3
      exact h3.symm
  · omega
theorem LR_end {s : List UInt8} {acc : List Int} {f k : Nat} (h : LR s acc f k) (hk : ¬ k ≤ s.length) : listF s = (acc, 0) := by
  rcases h with ⟨h1, _⟩ | ⟨_, h2⟩
  · omega
  · exact h2
theorem LR_le {s : List UInt8} {acc : List Int} {f k : Nat} (h : LR s acc f k) (hk : k ≤ s.length) : f ≤ k := by
  rcases h with ⟨_, h1, _⟩ | ⟨h2, _⟩
  · exact h1
  · omega
set_option maxRecDepth 100000 in
set_option maxHeartbeats 8000000 in
theorem rlist_any (s : List UInt8) (w : World) (hs : s.length ≤ 90000) :
    Calls Tryz.prog 90 #[.string (bs s)] w (ListPost w (listF s)) := by
  by_cases hm : s = [45]
  · subst hm
    have HF : Hid (listF [45] = ([], 0)) := Lib.hid rfl
    go_enter Tryz.func90, Tryz.ntmps90
    go_wp2_with fail
    go_ret2
    exact ⟨none, 0, by rw [HF.out]; rfl, by rw [HF.out]; exact RdS.nil _ _ _ _, Below.refl _ _⟩
  · have hm2 : (s == [45]) = false := by simp [hm]
    have HS := Lib.hid (LR_start hm)
    clear hm
    obtain ⟨i0, hi, hz0, hz1, hz2⟩ := info_parts infoInt
    go_enter Tryz.func90, Tryz.ntmps90
    go_wp2_with fail
    go_loopw [4, 5, 6] (fun v fr i wr => ∃ (f k : Nat) (acc : List Int), k ≤ s.length + 1 ∧ i = .int .i64 k ∧ fr = .int .i64 f ∧ acc.length ≤ k ∧ OwnR cI wr w.heap.size 3 v acc 0 ∧ Below w.heap.size w wr ∧ Hid (LR s acc f k)) (fun _ _ i _ => s.length + 1 - (intOf i).toNat)
    case atStart => exact ⟨0, 0, [], Nat.zero_le _, rfl, rfl, Nat.le_refl _, OwnR.nil _ _ _ _ (Nat.zero_le _), Below.refl _ _, HS⟩
    case round =>
      obtain ⟨f, k, acc, hk, rfl, rfl, hacc, hown, hbw, HK⟩ := hrel
      have hsz := hbw.size
      by_cases hle : k ≤ s.length
      · have hf := LR_le HK.out hle
        have hpl : ((s.take k).drop f).length ≤ maxLen := by rw [List.length_drop, List.length_take]; unfold maxLen; omega
        have HIN := Lib.hid (rint_any ((s.take k).drop f) wr hpl)
        have hrg := intF_range ((s.take k).drop f)
        clear hpl
        by_cases hlt : k < s.length
        · by_cases hc : s[k] = 44
          · obtain ⟨g1, g2⟩ := LR_word HK.out hlt hc
            have hc2 : ((s[k].toNat : Int) == 44) = true := by rw [hc]; rfl
            have hc3 : ((s[k].toNat : Int) != 44) = false := by rw [hc]; rfl
            clear hc
            have G1 := Lib.hid g1
            have G2 := Lib.hid g2
            clear g1 g2
            generalize hip : intF ((s.take k).drop f) = ip at HIN hrg G1 G2
            clear hip
            obtain ⟨n, e⟩ := ip
            obtain ⟨hn1, hn2, hn3⟩ := hrg
            simp only at HIN hn1 hn2 hn3 G1 G2
            by_cases he : e = 0
            · subst he
              have H2 := Lib.hid (G1.out rfl)
              clear hn2 hn3
              go_wp2_with fail
              refine HIN.out.mono ?_
              rintro e w2 ⟨rfl, rfl⟩
              go_wp2_with (at_builtin; refine wpList_append_r (c := cI) _ rfl _ _ 23 rfl w.heap.size 3 i0 (.int .i64 0) 8 Tryz.underlying23 hi hz0 hz1 hz2 rfl (by decide) _ acc 0 rfl hown [.int .i64 n] n ⟨rfl, hn1⟩ (by intro u hu; simp at hu; subst hu; rfl) _ rfl (by omega) (by omega) (by omega) ?_; intro v' w3 hown3 hf3 hs3)
              go_roundw
              case rel => exact ⟨k + 1, k + 1, acc ++ [n], by omega, by go_num, by go_num, by simp; omega, hown3, hf3.keeps (Nat.le_refl _) (by omega) hbw, H2⟩
              case measure => simp [intOf]; omega
            · have H2 := Lib.hid (G2.out he)
              have he2 : (e != 0) = true := by simp [he]
              clear he
              go_wp2_with (go_at_call 89; refine HIN.out.mono ?_; rintro e' w2 ⟨rfl, rfl⟩)
              go_ret2
              exact ⟨none, 0, by rw [H2.out]; rfl, by rw [H2.out]; exact RdS.nil _ _ _ _, hbw⟩
          · have H2 := Lib.hid (LR_char HK.out hlt hc)
            have hc3 : ((s[k].toNat : Int) != 44) = true := by
              simp
              intro h
              exact hc (UInt8.toNat_inj.1 (by rw [show (44 : UInt8).toNat = 44 from rfl]; omega))
            clear hc HIN hrg
            go_wp2_with fail
            go_roundw
            case rel => exact ⟨f, k + 1, acc, by omega, by go_num, rfl, by omega, hown, hbw, H2⟩
            case measure => simp [intOf]; omega
        · obtain rfl : k = s.length := by omega
          obtain ⟨g1, g2⟩ := LR_last HK.out
          have G1 := Lib.hid g1
          have G2 := Lib.hid g2
          clear g1 g2
          generalize hip : intF ((s.take s.length).drop f) = ip at HIN hrg G1 G2
          clear hip
          rw [List.take_length] at HIN
          obtain ⟨n, e⟩ := ip
          obtain ⟨hn1, hn2, hn3⟩ := hrg
          simp only at HIN hn1 hn2 hn3 G1 G2
          by_cases he : e = 0
          · subst he
            have H2 := Lib.hid (G1.out rfl)
            clear hn2 hn3
            go_wp2_with fail
            refine HIN.out.mono ?_
            rintro e w2 ⟨rfl, rfl⟩
            go_wp2_with (at_builtin; refine wpList_append_r (c := cI) _ rfl _ _ 23 rfl w.heap.size 3 i0 (.int .i64 0) 8 Tryz.underlying23 hi hz0 hz1 hz2 rfl (by decide) _ acc 0 rfl hown [.int .i64 n] n ⟨rfl, hn1⟩ (by intro u hu; simp at hu; subst hu; rfl) _ rfl (by omega) (by omega) (by omega) ?_; intro v' w3 hown3 hf3 hs3)
            go_roundw
            case rel => exact ⟨s.length + 1, s.length + 1, acc ++ [n], by omega, by go_num, by go_num, by simp; omega, hown3, hf3.keeps (Nat.le_refl _) (by omega) hbw, H2⟩
            case measure => simp [intOf]
          · have H2 := Lib.hid (G2.out he)
            have he2 : (e != 0) = true := by simp [he]
            clear he
            go_wp2_with (go_at_call 89; refine HIN.out.mono ?_; rintro e' w2 ⟨rfl, rfl⟩)
            go_ret2
            exact ⟨none, 0, by rw [H2.out]; rfl, by rw [H2.out]; exact RdS.nil _ _ _ _, hbw⟩
      · have H2 := Lib.hid (LR_end HK.out hle)
        obtain ⟨A', cap', rfl, _, hr2⟩ := hown.reads
        go_wp2_with fail
        go_ret2
        exact ⟨A', cap', by rw [H2.out]; rfl, by rw [H2.out]; exact hr2, hbw⟩
/-! ### FormatList -/
theorem join_snoc (sep x : List UInt8) : ∀ (xs : List (List UInt8)), xs ≠ [] → Lib.join (xs ++ [x]) sep = Lib.join xs sep ++ sep ++ x
  | [], h => absurd rfl h
  | y :: r, _ => by rw [List.cons_append, Lib.join_cons, Lib.join_cons]; simp [Lib.joinTail]
/-- The text of the first numbers of a list. -/
def fmtP (l : List Int) (k : Nat) : List UInt8 := Lib.join ((l.take k).map Lib.itoa) [44]
theorem fmtP_zero (l : List Int) : fmtP l 0 = [] := rfl
theorem fmtP_one (l : List Int) (h : 0 < l.length) : fmtP l 1 = Lib.itoa l[0] := by
  cases l with
  | nil => simp at h
  | cons a t => simp [fmtP, Lib.join_one]
theorem fmtP_succ (l : List Int) (k : Nat) (hk : 0 < k) (h : k < l.length) : fmtP l (k + 1) = fmtP l k ++ [44] ++ Lib.itoa l[k] := by
  unfold fmtP
  rw [List.take_succ_eq_append_getElem h, List.map_append, List.map_cons, List.map_nil, join_snoc]
  intro e
  have := congrArg List.length e
  rw [List.length_map, List.length_take, List.length_nil] at this
  omega
theorem fmtP_all (l : List Int) (k : Nat) (h : ¬ k < l.length) (hne : l ≠ []) : fmtP l k = fmtF l := by
  unfold fmtP fmtF
  rw [if_neg hne, List.take_of_length_le (by omega)]
theorem itoa_len {n : Int} (h : I64n n) : (Lib.itoa n).length ≤ 21 := Lib.itoa_length_le n h.1 h.2
theorem fmtP_len (l : List Int) (hl : ∀ n ∈ l, I64n n) : ∀ k, k ≤ l.length → (fmtP l k).length ≤ 22 * k
  | 0, _ => by simp [fmtP_zero]
  | k + 1, h => by
    have ih := fmtP_len l hl k (by omega)
    have h1 := itoa_len (hl l[k] (List.getElem_mem (by omega)))
    rcases Nat.eq_zero_or_pos k with hz | hz
    · subst hz
      rw [fmtP_one l (by omega)]
      omega
    · rw [fmtP_succ l k hz (by omega)]
      simp
      omega
theorem fmtP_gt0 (l : List Int) (k : Nat) (hk : 0 < k) (h : k < l.length) : fmtP l (k + 1) = fmtP l k ++ 44 :: Lib.itoa l[k] := by rw [fmtP_succ l k hk h]; simp
theorem infoByteC : (Tryz.prog.info? 5).map (fun i => (i.zero, i.size, i.bytes)) = some (some (.int .u8 0), 1, 1) := by kernel_rfl
theorem appendInt_any (B : Nat) (n : Int) (hn : I64n n) (v : Value) (l : List UInt8) (w : World) (E : Env w) (h : OwnB w B 5 v l) (hB : B ≤ w.heap.size) (hlen : l.length ≤ 10000000) (htab : Lib.TabBelow Tryz.prog B w "internal/strconv.uint64pow10" .u64 Lib.pow10Tab) :
    Calls Tryz.prog 106 #[v, .int .i64 n, .int .i64 10] w fun e w' => ∃ v', e = .returned v' ∧ OwnB w' B 5 v' (l ++ Lib.itoa n) ∧ Below B w w' ∧ Lib.OthersKept 5 none w w' :=
  (Tryz.strconv_AppendInt_10 B l.length n hn.1 hn.2 v (cellsU8 l) w h hB (by omega) htab).mono fun _ _ ⟨v', h1, h2, h3, h4⟩ => ⟨v', h1, by
    unfold OwnB
    rw [cellsU8_append, List.length_append]
    exact h2, h3, h4⟩
theorem rdI_all {w : World} {S : Nat → Prop} {A : Option Addr} {l : List Int} (h : RdS cI w S A l) : ∀ n ∈ l, I64n n := by
  intro n hn
  obtain ⟨i, hi⟩ := List.getElem?_of_mem hn
  obtain ⟨b, off, _, hc⟩ := h.pick rfl
  obtain ⟨u, hu, _⟩ := hc i n hi
  exact (cI_cell hu).2
set_option maxRecDepth 100000 in
set_option maxHeartbeats 4000000 in
theorem fmtList_any (l : List Int) (A : Option Addr) (cap : Nat) (w : World) (E : Env w) (hr : RdS cI w (Lt w) A l) (hl : l.length ≤ 100000) :
    Calls Tryz.prog 81 #[.slice A l.length cap] w fun e w' => e = .returned (.string (bs (fmtF l))) ∧ Below w.heap.size w w' := by
  by_cases hne : l = []
  · subst hne
    go_enter Tryz.func81, Tryz.ntmps81
    go_wp2_with fail
    go_ret
    exact ⟨rfl, Below.refl _ _⟩
  · have hpos : 0 < l.length := List.length_pos_iff.2 hne
    have hi64 := Lib.hid (rdI_all hr)
    have hn0 : ((l.length : Int) == 0) = false := by simp [hne]
    have HLEN := Lib.hid (fmtP_len l (rdI_all hr))
    have HALL : Hid (∀ k, ¬ k < l.length → fmtP l k = fmtF l) := Lib.hid fun k h => fmtP_all l k h hne
    clear hne
    obtain ⟨i0, hi, hz0, hz1, hz2⟩ := info_parts infoByteC
    go_enter Tryz.func81, Tryz.ntmps81
    go_wp2_with fail
    go_loopw [3, 11] (fun v i wr => ∃ (k : Nat), k ≤ l.length ∧ i = .int .i64 k ∧ OwnB wr w.heap.size 5 v (fmtP l k) ∧ Below w.heap.size w wr) (fun _ i _ => l.length - (intOf i).toNat)
    case atStart => exact ⟨0, Nat.zero_le _, rfl, OwnB.nil _ _ _, Below.refl _ _⟩
    case round =>
      obtain ⟨k, hk, rfl, hown, hbw⟩ := hrel
      have hsz := hbw.size
      by_cases hlt : k < l.length
      · obtain ⟨b, off, hA, hc⟩ := (hr.now hbw).pick rfl
        obtain ⟨rfl, _⟩ := hA (by omega)
        obtain ⟨u, hu, x0⟩ := hc k _ (List.getElem?_eq_getElem hlt)
        obtain ⟨rfl, hn⟩ := cI_cell hu
        clear hc hA hu
        have hki : (k : Int) < (l.length : Int) := by omega
        have hfl := HLEN.out k hk
        have htab : Lib.TabBelow Tryz.prog w.heap.size wr "internal/strconv.uint64pow10" .u64 Lib.pow10Tab := (Lib.tabBelow_of_tabIs E.tab).on hbw
        have E2 := E.now hbw
        by_cases hk0 : 0 < k
        · have HS := Lib.hid (fmtP_gt0 l k hk0 hlt)
          generalize l[k] = n at *
          generalize fmtP l k = pre at *
          go_wp2_with (at_builtin; refine wpList_append_u8 _ rfl _ _ 73 rfl w.heap.size 5 i0 Tryz.underlying73 hi hz0 hz1 hz2 _ pre rfl hown 44 _ rfl _ rfl (by omega) (by omega) ?_; intro v' w3 hown3 hk3)
          have hb3 := hk3 _ _ (Nat.le_refl _) hbw
          refine (appendInt_any _ n hn _ _ _ (E.now hb3) hown3 hb3.size (by simp; omega) ((Lib.tabBelow_of_tabIs E.tab).on hb3)).mono ?_
          rintro e w4 ⟨v4, rfl, hown4, hb4, _⟩
          go_wp2_with fail
          go_roundw
          case rel => exact ⟨k + 1, by omega, by go_num, by rw [HS.out]; simpa using hown4, hb3.trans hb4⟩
          case measure => simp [intOf]; omega
        · obtain rfl : k = 0 := by omega
          have HS := Lib.hid (fmtP_one l hlt)
          rw [Nat.add_zero] at x0
          rw [fmtP_zero] at hown
          generalize l[0] = n at *
          go_wp2_with fail
          refine (appendInt_any _ n hn _ _ _ E2 hown hsz (by simp) htab).mono ?_
          rintro e w4 ⟨v4, rfl, hown4, hb4, _⟩
          go_wp2_with fail
          go_roundw
          case rel => exact ⟨1, by omega, by go_num, by rw [HS.out]; simpa using hown4, hbw.trans hb4⟩
          case measure => simp [intOf]; omega
      · have HE := Lib.hid (HALL.out k hlt)
        have hcv := conv_own (P := Tryz.prog) wr Tryz.underlying73 Tryz.underlying5 Tryz.underlying9 hown
        go_wp2_with fail
        go_ret
        exact ⟨by rw [HE.out]; rfl, hbw⟩
end Go.Proofs.YtlblfblkallnhaaGreatDoor
namespace Go.Proofs.YtlblfblkallnhaaGreatDoor
set_option linter.unusedVariables false
set_option linter.unusedSimpArgs false
open Go.RowKit
attribute [local go_sem] bs_size bs_get bs_append bs_extract bs_toList
theorem cut_nl_no (s : List UInt8) (w : World) (E : Env w) (hs : s.length < 4294967281) (h : (10 : UInt8) ∉ s) :
    Calls Tryz.prog 38 #[.string (bs s), .string (bs [10])] w fun e w' => e = .returned (.tuple #[.string (bs s), .string (bs []), .bool false]) ∧ Below w.heap.size w w' := by
  have h2 := cut_nl s w E hs
  rw [cut_no h] at h2
  exact h2
theorem cut_nl_at (a b : List UInt8) (w : World) (E : Env w) (hs : (a ++ 10 :: b).length < 4294967281) (h : (10 : UInt8) ∉ a) :
    Calls Tryz.prog 38 #[.string (bs (a ++ 10 :: b)), .string (bs [10])] w fun e w' => e = .returned (.tuple #[.string (bs a), .string (bs b), .bool true]) ∧ Below w.heap.size w w' := by
  have h2 := cut_nl (a ++ 10 :: b) w E hs
  rw [cut_at h] at h2
  exact h2
/-- strings.Split: a new row as an element of a row of another type. -/
theorem split_sep (c : UInt8) (s : List UInt8) (w : World) (T : TypeId) (hT : 9 ≠ T) (E : Env w) (hs : s.length ≤ 1000000000) :
    Calls Tryz.prog 40 #[.string (bs s), .string (bs [c])] w fun e w' => ∃ A, e = .returned (.slice A (spl c s).length (spl c s).length) ∧ (cL cS).rd w' (Sep w' T w'.heap.size) [.slice A (spl c s).length (spl c s).length] (spl c s) ∧ Below w.heap.size w w' := by
  refine (split_any c s w E (by omega)).mono ?_
  rintro e w' ⟨h, rfl⟩
  refine ⟨_, h, ⟨_, _, rfl, ?_, rds_new w _ _ _ rfl (fun x hx => ?_) _ ⟨by simp, fun cs fr he => ?_⟩⟩, (Below.refl _ _).alloc (Nat.le_refl _) _⟩
  · have := spl_count (c := c) s
    unfold maxLen
    exact ⟨by omega, Nat.le_refl _⟩
  · have := spl_part hx
    unfold maxLen
    omega
  · rw [heap_alloc_new] at he
    simp only [Option.some.injEq, Obj.cells.injEq] at he
    exact hT he.2.1
/-- The result of Lines. -/
def LinesPost (w : World) (r : Lns × Nat × Int) (e : Ending) (w' : World) : Prop :=
  ∃ A cap, e = .returned (.tuple #[.slice A r.1.length cap, .int .i64 r.2.1, .int .i64 r.2.2]) ∧ r.1.length ≤ maxLen ∧ RdS (cL cS) w' (Lt w') A r.1 ∧ Below w.heap.size w w'
theorem linesPost_none {w w' : World} {r : Lns × Nat × Int} {n : Nat} {x : Int} (h : r = ([], n, x)) (hb : Below w.heap.size w w') {e : Ending} (he : e = .returned (.tuple #[.slice none 0 0, .int .i64 n, .int .i64 x])) : LinesPost w r e w' := by
  subst h
  exact ⟨none, 0, he, Nat.zero_le _, RdS.nil _ _ _ _, hb⟩
def strL : Value → Nat
  | .string b => b.size
  | _ => 0
theorem strL_bs (l : List UInt8) : strL (.string (bs l)) = l.length := bs_size l
theorem own1 {u v : Value} (h : v.oneCell' = true) : ∀ x ∈ [v], x.oneCell' = true := by
  intro x hx
  simp at hx
  subst hx
  exact h
set_option maxRecDepth 100000 in
set_option maxHeartbeats 8000000 in
theorem lines_any (s : List UInt8) (w : World) (E : Env w) (hs : s.length ≤ maxLen) :
    Calls Tryz.prog 17 #[.string (bs s)] w (LinesPost w (linesF s)) := by
  unfold maxLen at hs
  by_cases hlong : 32768 < s.length
  · have HF : Hid (linesF s = ([], 0, 2)) := Lib.hid (by unfold linesF; rw [if_pos hlong])
    go_enter Tryz.func17, Tryz.ntmps17
    go_wp2_with fail
    go_ret3
    exact linesPost_none HF.out (Below.refl _ _) rfl
  · have HF : Hid (linesF s = scan [] [] [] s) := Lib.hid (by unfold linesF; rw [if_neg hlong])
    have hl : s.length ≤ 32768 := by omega
    clear hlong
    obtain ⟨i0, hi, hz0, hz1, hz2⟩ := info_parts infoStrs
    go_enter Tryz.func17, Tryz.ntmps17
    go_wp2_with fail
    go_loopw [0, 5, 6] (fun sv v n wr => ∃ (out : Lns) (rest : List UInt8) (B : Nat), sv = .string (bs rest) ∧ out.length + rest.length ≤ 32768 ∧ n = .int .i64 (out.length + 1 : Nat) ∧ OwnR (cL cS) wr w.heap.size 46 v out B ∧ Below w.heap.size w wr ∧ Hid (scan out [] [] rest = linesF s)) (fun sv _ _ _ => strL sv)
    case atStart => exact ⟨[], s, 0, rfl, by simp; omega, rfl, OwnR.nil _ _ _ _ (Nat.zero_le _), Below.refl _ _, Lib.hid HF.out.symm⟩
    case round =>
      obtain ⟨out, rest, B, rfl, hlen, rfl, hown, hbw, HK⟩ := hrel
      have hsz := hbw.size
      have E1 := E.now hbw
      have hB := hown
      obtain ⟨_, _, _, hBle⟩ := hB
      rcases at_or 10 rest with h10 | ⟨a, b, hab, h10⟩
      · by_cases hem : rest = []
        · subst hem
          have H2 : Hid (linesF s = (out, 0, 0)) := Lib.hid (by rw [← HK.out]; rfl)
          obtain ⟨A', cap', rfl, hsh, hr2⟩ := hown.reads
          go_wp2_with fail
          go_ret3
          exact ⟨A', cap', by rw [H2.out]; rfl, by rw [H2.out]; exact hsh, by rw [H2.out]; exact hr2, hbw⟩
        · have H2 : Hid (linesF s = ([], out.length + 1, 4)) := Lib.hid (by rw [← HK.out]; exact scan_end out rest h10 hem)
          have hem1 : (rest == []) = false := by simp [hem]
          have hem2 : rest.isEmpty = false := by simp [hem]
          have H10 := Lib.hid h10
          clear hem h10
          go_wp2_with fail
          refine (cut_nl_no rest _ E1 (by omega) H10.out).mono ?_
          rintro e w2 ⟨rfl, hb2⟩
          go_wp2_with fail
          go_ret3
          exact linesPost_none H2.out (bel_then hbw hsz hb2) rfl
      · subst hab
        have hem1 : ((a ++ 10 :: b) == []) = false := by simp
        have hem2 : (a ++ 10 :: b).isEmpty = false := by simp
        have hlen2 : out.length + a.length + b.length + 1 ≤ 32768 := by simp at hlen; omega
        have HL : Hid ((a ++ 10 :: b).length = a.length + b.length + 1) := Lib.hid (by simp; omega)
        have H10 := Lib.hid h10
        clear h10 hlen
        have HC := Lib.hid (cut_nl_at a b wr E1 (by rw [HL.out]; omega) H10.out)
        have HS := Lib.hid (scan_cut out a b H10.out)
        have HM : Hid (strL (.string (bs b)) < strL (.string (bs (a ++ 10 :: b)))) := Lib.hid (by rw [strL_bs, strL_bs, HL.out]; omega)
        generalize hr : a ++ 10 :: b = r at *
        clear hr
        by_cases hln : lnB 0 a = true
        · have H2 : Hid (scan (out ++ [spl 32 a]) [] [] b = linesF s) := Lib.hid (by rw [← HK.out, HS.out, if_pos hln])
          have HI : Hid (∀ W : World, Calls Tryz.prog 39 #[.string (bs a)] W fun e w' => e = .returned (.bool true) ∧ Below W.heap.size W w') := Lib.hid fun W => by
            have := isLine_any a W (by unfold maxLen; omega)
            rw [hln] at this
            exact this
          clear hln HS HK
          go_wp2_with fail
          refine HC.out.mono ?_
          rintro e w2 ⟨rfl, hb2⟩
          have hB2 := bel_then hbw hsz hb2
          go_wp2_with fail
          refine (HI.out _).mono ?_
          rintro e w3 ⟨rfl, hb3⟩
          have hB3 := bel_then hB2 hB2.size hb3
          have hsp := split_sep 32 a w3 46 (by decide) (E.now hB3) (by omega)
          have hn2 : (spl 32 a).length ≤ maxLen := by have := spl_count (c := 32) a; unfold maxLen; omega
          generalize spl 32 a = ws at hsp H2 hn2
          go_wp2_with fail
          refine hsp.mono ?_
          rintro e w4 ⟨A4, rfl, hrd4, hb4⟩
          have hB4 := bel_then hB3 hB3.size hb4
          have hown4 := ((((hown.now hb2).now hb3).now hb4).raise (B' := w4.heap.size) (by have := hb2.size; have := hb3.size; have := hb4.size; omega) (Nat.le_refl _))
          have hsz4 := hB4.size
          clear hown hsp
          go_wp2_with (at_builtin; refine wpList_append_r (c := cL cS) _ rfl _ _ 43 rfl w.heap.size 46 i0 (.slice none 0 0) 24 Tryz.underlying43 hi hz0 hz1 hz2 rfl (by decide) _ out _ rfl hown4 [_] ws hrd4 (own1 (u := .nilIface) rfl) _ rfl (by omega) (by omega) (by omega) ?_; intro v' w5 hown5 hf5 hs5)
          go_roundw
          case rel => exact ⟨out ++ [ws], b, _, rfl, by simp; omega, by simp, hown5, hf5.keeps (Nat.le_refl _) (by omega) hB4, H2⟩
          case measure => exact HM.out
        · have H2 : Hid (linesF s = ([], out.length + 1, 4)) := Lib.hid (by rw [← HK.out, HS.out, if_neg hln])
          have HI : Hid (∀ W : World, Calls Tryz.prog 39 #[.string (bs a)] W fun e w' => e = .returned (.bool false) ∧ Below W.heap.size W w') := Lib.hid fun W => by
            have := isLine_any a W (by unfold maxLen; omega)
            have hln' : lnB 0 a = false := by simpa using hln
            rw [hln'] at this
            exact this
          clear hln HS HK
          go_wp2_with fail
          refine HC.out.mono ?_
          rintro e w2 ⟨rfl, hb2⟩
          have hB2 := bel_then hbw hsz hb2
          go_wp2_with fail
          refine (HI.out _).mono ?_
          rintro e w3 ⟨rfl, hb3⟩
          have hB3 := bel_then hB2 hB2.size hb3
          go_wp2_with fail
          go_ret3
          exact linesPost_none H2.out hB3 rfl
end Go.Proofs.YtlblfblkallnhaaGreatDoor
