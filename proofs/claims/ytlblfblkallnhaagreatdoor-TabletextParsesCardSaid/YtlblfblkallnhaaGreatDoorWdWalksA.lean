/- The walks of the small functions on words: word, isLine, digits, below, Name. -/
import Derived.Test.YtlblfblkallnhaaGreatDoorWdEnv
import Derived.Laws.RangeAny
import Derived.Lib.OthersKept
import Derived.Outline
import Derived.Handy
import Derived.IntWalk
namespace Go.Proofs.YtlblfblkallnhaaGreatDoor
set_option linter.unusedVariables false
set_option linter.unusedSimpArgs false
open Go.RowKit
attribute [local go_sem] bs_size bs_get bs_append bs_extract bs_toList
theorem ret_b {a b : Bool} (h : a = b) : Ending.returned (.bool a) = .returned (.bool b) := by rw [h]
theorem all_snoc {p : UInt8 → Bool} {l : List UInt8} {k : Nat} (h : k < l.length) : (l.take (k + 1)).all p = ((l.take k).all p && p l[k]) := by rw [take_snoc l k h, List.all_append, List.all_cons, List.all_nil, Bool.and_true]
theorem not_all {p : UInt8 → Bool} {l : List UInt8} {k : Nat} (h : k < l.length) (hp : p l[k] = false) : l.all p = false := by
  rw [Bool.eq_false_iff]
  intro h2
  rw [List.all_eq_true.1 h2 l[k] (List.getElem_mem h)] at hp
  cases hp
theorem bool2_false {a b : Prop} [Decidable a] [Decidable b] (h : ¬ (a ∧ b)) : (decide a && decide b) = false := by
  rw [Bool.eq_false_iff]; intro h2; simp only [Bool.and_eq_true, decide_eq_true_eq] at h2; exact h h2
theorem bool2_true {a b : Prop} [Decidable a] [Decidable b] (h : a ∧ b) : (decide a && decide b) = true := by
  simp only [Bool.and_eq_true, decide_eq_true_eq]; exact h
set_option maxHeartbeats 1000000 in
theorem rword_any (l : List UInt8) (w : World) (hs : l.length ≤ maxLen) :
    Calls Tryz.prog 46 #[.string (bs l)] w fun e w' => e = .returned (.bool (wordB l)) ∧ w = w' := by
  unfold maxLen at hs
  go_enter Tryz.func46, Tryz.ntmps46
  go_wp2
  go_loop [3] (fun i => ∃ k : Nat, k ≤ l.length ∧ i = .int .i64 k ∧ Hid ((l.take k).all chB = true)) (fun i => l.length - (intOf i).toNat)
  case atStart => exact ⟨0, Nat.zero_le _, rfl, Lib.hid (by simp)⟩
  case round =>
    obtain ⟨k, hk, rfl, HA⟩ := hrel
    by_cases hlt : k < l.length
    · have HC : Hid (chB l[k] = (decide (33 ≤ l[k].toNat) && decide (l[k].toNat ≤ 126))) := Lib.hid rfl
      generalize hc : l[k].toNat = c at HC
      go_wp2
      all_goals first
        | (go_ret
           refine ⟨ret_b ?_, rfl⟩
           have h1 : chB l[k] = false := by rw [HC.out]; exact bool2_false (by omega)
           unfold wordB; rw [not_all hlt h1]; rfl)
        | (go_round
           case rel => exact ⟨k + 1, by omega, by go_num, Lib.hid (by rw [all_snoc hlt, HA.out, HC.out]; exact bool2_true (by omega))⟩
           case measure => simp [intOf]; omega)
    · have HW : Hid (wordB l = (decide (1 ≤ l.length) && decide (l.length ≤ 64))) := Lib.hid (by
        have h1 := HA.out
        rw [take_all l k hlt] at h1
        unfold wordB; rw [h1, Bool.true_and])
      go_wp2
      all_goals (go_ret; refine ⟨ret_b ?_, rfl⟩; rw [HW.out, Bool.eq_iff_iff]; simp only [Bool.and_eq_true, decide_eq_true_eq, Bool.false_eq_true, false_iff]; omega)
/-! ### A line, rune by rune -/
theorem drop_at {l : List UInt8} {k : Nat} (h : k < l.length) : l.drop k = l[k] :: l.drop (k + 1) := List.drop_eq_getElem_cons h
set_option maxRecDepth 100000 in
set_option maxHeartbeats 2000000 in
theorem isLine_any (l : List UInt8) (w : World) (hs : l.length ≤ maxLen) :
    Calls Tryz.prog 39 #[.string (bs l)] w fun e w' => e = .returned (.bool (lnB 0 l)) ∧ Below w.heap.size w w' := by
  unfold maxLen at hs
  go_enter Tryz.func39, Tryz.ntmps39
  go_wp2
  go_loopw [3] (fun n w' => ∃ pos k : Nat, w' = w.iter (bs l) pos ∧ pos ≤ l.length ∧ n = .int .i64 k ∧ k ≤ 64 ∧ Hid (lnB k (l.drop pos) = lnB 0 l)) (fun _ w' => l.length - w'.iterPos w.heap.size)
  case atStart => exact ⟨0, 0, rfl, Nat.zero_le _, rfl, by omega, Lib.hid (by rw [List.drop_zero])⟩
  case round =>
    obtain ⟨pos, k, rfl, hp, rfl, hk, HL⟩ := hrel
    have hbel : ∀ q, Below w.heap.size w (w.iter (bs l) q) := fun q => (Below.refl _ _).alloc (Nat.le_refl _) _
    by_cases hlt : pos < l.length
    · have hsz : pos < (bs l).size := by rw [bs_size]; exact hlt
      have HC : Hid (lnB k (l.drop pos) = if l[pos].toNat = 32 ∧ 0 < k then lnB 0 (l.drop (pos + 1)) else if (33 ≤ l[pos].toNat ∧ l[pos].toNat ≤ 126) ∧ k < 64 then lnB (k + 1) (l.drop (pos + 1)) else false) := Lib.hid (by rw [drop_at hlt]; rfl)
      by_cases ha : l[pos].toNat < 128
      · have hnx : ∀ ty, (Instr.next (.pointer (some ⟨w.heap.size, 0, none⟩)) true ty).run Tryz.prog (w.iter (bs l) pos) = .ok (.tuple #[.bool true, .int .i64 pos, .int .i32 (l[pos].toNat)]) (w.iter (bs l) (pos + 1)) := fun ty => run_next_ascii w (bs l) pos ty hsz ha
        generalize l[pos].toNat = c at hnx HC ha
        by_cases h32 : c = 32 ∧ 0 < k
        · obtain ⟨rfl, hk0⟩ := h32
          go_wp2
          go_roundw
          case rel => exact ⟨pos + 1, 0, rfl, by omega, rfl, by omega, Lib.hid (by rw [← HL.out, HC.out, if_pos ⟨rfl, hk0⟩])⟩
          case measure => simp; omega
        · by_cases hok : (33 ≤ c ∧ c ≤ 126) ∧ k < 64
          · obtain ⟨⟨c1, c2⟩, c3⟩ := hok
            have c4 : ((c : Int) == 32) = false := by simp; omega
            go_wp2
            go_roundw
            case rel => exact ⟨pos + 1, k + 1, rfl, by omega, by go_num, by omega, Lib.hid (by rw [← HL.out, HC.out, if_neg h32, if_pos ⟨⟨c1, c2⟩, c3⟩])⟩
            case measure => simp; omega
          · have hf : lnB 0 l = false := by rw [← HL.out, HC.out, if_neg h32, if_neg hok]
            have HF := Lib.hid hf
            clear hf
            go_wp2
            all_goals first
              | (go_ret; exact ⟨ret_b HF.out.symm, hbel _⟩)
              | (exfalso; simp at *; omega)
      · have hd := decode_high (bs l) pos hsz (by show 128 ≤ l[pos].toNat; omega)
        have hd2 := decode_le (bs l) pos
        have hnx : ∀ ty, (Instr.next (.pointer (some ⟨w.heap.size, 0, none⟩)) true ty).run Tryz.prog (w.iter (bs l) pos) = _ := fun ty => run_next_any w (bs l) pos ty hsz
        generalize (Utf8.decode (bs l) pos).1 = d at hnx hd hd2
        generalize (Utf8.decode (bs l) pos).2 = q at hnx hd
        have hf : lnB 0 l = false := by rw [← HL.out, HC.out, if_neg (by omega), if_neg (by omega)]
        have HF := Lib.hid hf
        clear hf ha
        obtain ⟨hd, _⟩ := hd
        have c4 : ((d : Int) == 32) = false := by simp; omega
        go_wp2
        go_ret
        exact ⟨ret_b HF.out.symm, hbel _⟩
    · have hnx : ∀ ty, (Instr.next (.pointer (some ⟨w.heap.size, 0, none⟩)) true ty).run Tryz.prog (w.iter (bs l) pos) = _ := fun ty => run_next_end w (bs l) pos ty (by rw [bs_size]; exact hlt)
      have hf : lnB 0 l = decide (0 < k) := by rw [← HL.out, List.drop_of_length_le (by omega)]; rfl
      have HF := Lib.hid hf
      clear hf
      go_wp2
      go_ret
      exact ⟨ret_b (by rw [HF.out]; try simp), hbel _⟩
/-! ### Digits -/
set_option maxHeartbeats 2000000 in
theorem rdigits_any (l : List UInt8) (w : World) (hs : l.length ≤ maxLen) :
    Calls Tryz.prog 109 #[.string (bs l)] w fun e w' => e = .returned (.bool (digB l)) ∧ w = w' := by
  unfold maxLen at hs
  go_enter Tryz.func109, Tryz.ntmps109
  go_wp2
  go_loop [3] (fun i => ∃ k : Nat, k ≤ l.length ∧ i = .int .i64 k ∧ Hid ((l.take k).all isD = true)) (fun i => l.length - (intOf i).toNat)
  case atStart => exact ⟨0, Nat.zero_le _, rfl, Lib.hid (by simp)⟩
  case round =>
    obtain ⟨k, hk, rfl, HA⟩ := hrel
    by_cases hlt : k < l.length
    · have HC : Hid (isD l[k] = (decide (48 ≤ l[k].toNat) && decide (l[k].toNat ≤ 57))) := Lib.hid rfl
      generalize hc : l[k].toNat = c at HC
      go_wp2
      all_goals first
        | (go_ret
           refine ⟨ret_b ?_, rfl⟩
           have h1 : isD l[k] = false := by rw [HC.out]; exact bool2_false (by omega)
           unfold digB; rw [not_all hlt h1]; rfl)
        | (go_round
           case rel => exact ⟨k + 1, by omega, by go_num, Lib.hid (by rw [all_snoc hlt, HA.out, HC.out]; exact bool2_true (by omega))⟩
           case measure => simp [intOf]; omega)
    · have h1 : l.all isD = true := by
        have h1 := HA.out
        rw [take_all l k hlt] at h1
        exact h1
      cases l with
      | nil =>
        go_wp2
        go_ret
        exact ⟨rfl, rfl⟩
      | cons a t =>
        have HW : Hid (digB (a :: t) = (decide (a.toNat ≠ 48) || decide (t = []))) := Lib.hid (by
          unfold digB
          rw [h1]
          have : (a = 48) = (a.toNat = 48) := by rw [eq_iff_iff]; exact ⟨fun h => by rw [h]; rfl, fun h => UInt8.toNat_inj.1 h⟩
          simp [this])
        clear h1 HA
        have hl : 0 < (a :: t).length := by simp
        have h0 : (a :: t)[0] = a := rfl
        have hlen : ((a :: t).length : Int) = (t.length : Int) + 1 := by simp
        by_cases ha : a.toNat = 48
        · have c1 : ((a.toNat : Int) != 48) = false := by simp [ha]
          by_cases ht : t = []
          · subst ht
            go_wp2
            go_ret
            exact ⟨ret_b (by rw [HW.out]; simp), rfl⟩
          · have hpos : 0 < t.length := List.length_pos_iff.2 ht
            have c2 : ((t.length : Int) + 1 == 1) = false := by simp; omega
            go_wp2
            all_goals (go_ret; exact ⟨ret_b (by rw [HW.out]; simp [ha, ht]), rfl⟩)
        · have c1 : ((a.toNat : Int) != 48) = true := by simp; omega
          go_wp2
          all_goals (go_ret; exact ⟨ret_b (by rw [HW.out]; simp [ha]), rfl⟩)
theorem valA_bound (l : List UInt8) (k : Nat) (h : val l ≤ 9223372036854775808) : val (l.take k) ≤ 9223372036854775808 := Nat.le_trans (val_take_le l k) h
set_option maxHeartbeats 2000000 in
/-- Digits that represent at most the greatest int and 1. -/
theorem below_ok (l : List UInt8) (w : World) (hs : l.length ≤ maxLen) (hd : l.all isD = true) (hv : val l ≤ 9223372036854775808) :
    Calls Tryz.prog 110 #[.string (bs l)] w fun e w' => e = .returned (.tuple #[.int .i64 (-(val l : Int)), .bool true]) ∧ w = w' := by
  unfold maxLen at hs
  have HD := Lib.hid hd
  have HV := Lib.hid hv
  clear hd hv
  go_enter Tryz.func110, Tryz.ntmps110
  go_wp2
  go_loop [4, 5] (fun n i => ∃ k : Nat, k ≤ l.length ∧ i = .int .i64 k ∧ n = .int .i64 (-(val (l.take k) : Int))) (fun _ i => l.length - (intOf i).toNat)
  case atStart => exact ⟨0, Nat.zero_le _, rfl, rfl⟩
  case round =>
    obtain ⟨k, hk, rfl, rfl⟩ := hrel
    by_cases hlt : k < l.length
    · have hc := isD_iff.1 (List.all_eq_true.1 HD.out l[k] (List.getElem_mem hlt))
      have hb := valA_bound l (k + 1) HV.out
      have e := val_snoc (l.take k) l[k]
      rw [← take_snoc l k hlt] at e
      rw [e] at hb
      have HE := Lib.hid e
      clear e
      generalize hcc : l[k].toNat = c at hc hb HE
      generalize val (l.take k) = v at hb HE ⊢
      obtain ⟨hc1, hc2⟩ := hc
      have a1 : IntKind.u8.wrap ((c : Int) - 48) = (c : Int) - 48 := by unfold IntKind.wrap; simp [IntKind.bits, IntKind.signed]; omega
      have a2 : decide (-(v : Int) < (-9223372036854775808 + ((c : Int) - 48)).tdiv 10) = false := by
        rw [decide_eq_false_iff_not]
        have : (-9223372036854775808 + ((c : Int) - 48)).tdiv 10 = -((9223372036854775808 - ((c : Int) - 48)) / 10) := by
          rw [show (-9223372036854775808 + ((c : Int) - 48)) = -(9223372036854775808 - ((c : Int) - 48)) by omega, Int.neg_tdiv, Int.tdiv_eq_ediv_of_nonneg (by omega)]
        rw [this]; omega
      go_wp2
      go_round
      case rel => exact ⟨k + 1, by omega, by go_num, by rw [HE.out]; congr 1; omega⟩
      case measure => simp [intOf]; omega
    · have h1 : l.take k = l := take_all l k hlt
      have H1 := Lib.hid h1
      clear h1
      go_wp2
      go_ret2
      exact ⟨by rw [H1.out]; rfl, rfl⟩
set_option maxHeartbeats 2000000 in
/-- Digits that represent more. -/
theorem below_over (l : List UInt8) (w : World) (hs : l.length ≤ maxLen) (hd : l.all isD = true) (hv : 9223372036854775808 < val l) :
    Calls Tryz.prog 110 #[.string (bs l)] w fun e w' => e = .returned (.tuple #[.int .i64 0, .bool false]) ∧ w = w' := by
  unfold maxLen at hs
  have HD := Lib.hid hd
  have HV := Lib.hid hv
  clear hd hv
  go_enter Tryz.func110, Tryz.ntmps110
  go_wp2
  go_loop [4, 5] (fun n i => ∃ k : Nat, k ≤ l.length ∧ i = .int .i64 k ∧ n = .int .i64 (-(val (l.take k) : Int)) ∧ Hid (val (l.take k) ≤ 9223372036854775808)) (fun _ i => l.length - (intOf i).toNat)
  case atStart => exact ⟨0, Nat.zero_le _, rfl, rfl, Lib.hid (Nat.zero_le _)⟩
  case round =>
    obtain ⟨k, hk, rfl, rfl, HB⟩ := hrel
    by_cases hlt : k < l.length
    · have hc := isD_iff.1 (List.all_eq_true.1 HD.out l[k] (List.getElem_mem hlt))
      have hb := HB.out
      have e := val_snoc (l.take k) l[k]
      rw [← take_snoc l k hlt] at e
      have HE := Lib.hid e
      clear e HB
      generalize hcc : l[k].toNat = c at hc HE
      generalize val (l.take k) = v at hb HE ⊢
      obtain ⟨hc1, hc2⟩ := hc
      have a1 : IntKind.u8.wrap ((c : Int) - 48) = (c : Int) - 48 := by unfold IntKind.wrap; simp [IntKind.bits, IntKind.signed]; omega
      have a3 : (-9223372036854775808 + ((c : Int) - 48)).tdiv 10 = -((9223372036854775808 - ((c : Int) - 48)) / 10) := by
        rw [show (-9223372036854775808 + ((c : Int) - 48)) = -(9223372036854775808 - ((c : Int) - 48)) by omega, Int.neg_tdiv, Int.tdiv_eq_ediv_of_nonneg (by omega)]
      by_cases hov : v * 10 + (c - 48) ≤ 9223372036854775808
      · have a2 : decide (-(v : Int) < (-9223372036854775808 + ((c : Int) - 48)).tdiv 10) = false := by
          rw [decide_eq_false_iff_not, a3]; omega
        clear a3
        go_wp2
        go_round
        case rel => exact ⟨k + 1, by omega, by go_num, by rw [HE.out]; congr 1; omega, Lib.hid (by rw [HE.out]; exact hov)⟩
        case measure => simp [intOf]; omega
      · have a2 : decide (-(v : Int) < (-9223372036854775808 + ((c : Int) - 48)).tdiv 10) = true := by
          rw [decide_eq_true_iff, a3]; omega
        clear a3
        go_wp2
        go_ret2
        exact ⟨rfl, rfl⟩
    · exfalso
      have h1 := HB.out
      have h2 := HV.out
      rw [take_all l k hlt] at h1
      omega
/-! ### Int -/
/-- What stands behind a minus sign. -/
def digOf (s : List UInt8) : List UInt8 := if s.head? = some 45 then s.drop 1 else s
theorem trim_dig (s : List UInt8) : Lib.trimPrefix s [45] = digOf s := by
  unfold Lib.trimPrefix digOf Lib.hasPrefix
  cases s with
  | nil => rfl
  | cons a t =>
    by_cases h : a = 45
    · subst h; simp [List.isPrefixOf]
    · have h2 : ¬ 45 = a := fun e => h e.symm
      simp [List.isPrefixOf, h, h2]
theorem digOf_len (s : List UInt8) : (digOf s).length ≤ s.length := by unfold digOf; split <;> simp
/-- The first test of Int. -/
def intT (s : List UInt8) : Bool := (digOf s).isEmpty || (decide ((digOf s).head? = some 48) && decide (s ≠ [48]))
theorem intF_eq (s : List UInt8) : intF s = if digB (digOf s) = false ∨ (s.head? = some 45 ∧ digOf s = [48]) then (0, 4)
  else if s.head? = some 45 then (if val (digOf s) ≤ 9223372036854775808 then (-(val (digOf s) : Int), 0) else (0, 17))
  else if val (digOf s) < 9223372036854775808 then ((val (digOf s) : Int), 0) else (0, 17) := rfl
theorem intF_T {s : List UInt8} (h : intT s = true) : intF s = (0, 4) := by
  rw [intF_eq, if_pos]
  unfold intT at h
  by_cases hn : s.head? = some 45
  · by_cases hz : digOf s = [48]
    · exact .inr ⟨hn, hz⟩
    · left
      unfold digB
      cases hd : digOf s with
      | nil => simp
      | cons a t =>
        rw [hd] at h hz
        simp at h hz ⊢
        intro _ _
        exact ⟨h.1, hz h.1⟩
  · have hds : digOf s = s := by unfold digOf; rw [if_neg hn]
    left
    rw [hds] at h ⊢
    unfold digB
    cases s with
    | nil => simp
    | cons a t =>
      simp at h ⊢
      intro _ _
      exact ⟨h.1, h.2.resolve_left (fun x => x h.1)⟩
theorem intF_bad {s : List UInt8} (h : (digOf s).all isD = false) : intF s = (0, 4) := by
  rw [intF_eq, if_pos (Or.inl (by unfold digB; rw [h]; rfl))]
theorem intF_atoi {s : List UInt8} (hT : intT s = false) (h : (digOf s).all isD = true) : (∃ v, Lib.atoiAll s = .ok v ∧ intF s = (v, 0)) ∨ (Lib.atoiAll s = .range ∧ intF s = (0, 17)) := by
  have hd : digB (digOf s) = true := by
    unfold digB
    rw [h]
    unfold intT at hT
    cases hds : digOf s with
    | nil => rw [hds] at hT; simp at hT
    | cons a t =>
      rw [hds] at hT
      simp at hT ⊢
      by_cases ha : a = 48
      · right
        have := hT ha
        subst this
        simp [digOf] at hds
        exact hds.2.symm ▸ rfl
      · exact .inl ha
  have hne : ¬ (digB (digOf s) = false ∨ (s.head? = some 45 ∧ digOf s = [48])) := by
    rintro (h1 | ⟨h1, h2⟩)
    · rw [hd] at h1; cases h1
    · unfold intT at hT
      rw [h2] at hT
      simp at hT
      subst hT
      simp at h1
  rw [intF_eq, if_neg hne]
  by_cases hn : s.head? = some 45
  · rw [if_pos hn]
    obtain ⟨t, rfl⟩ : ∃ t, s = 45 :: t := by
      cases s with
      | nil => simp at hn
      | cons a t => simp at hn; exact ⟨t, by rw [hn]⟩
    have e : digOf (45 :: t) = t := by simp [digOf]
    rw [e] at hd ⊢
    rw [atoi_neg hd]
    by_cases hv : val t ≤ 9223372036854775808
    · rw [if_pos hv, if_pos hv]; exact .inl ⟨_, rfl, rfl⟩
    · rw [if_neg hv, if_neg hv]; exact .inr ⟨rfl, rfl⟩
  · rw [if_neg hn]
    have e : digOf s = s := by unfold digOf; rw [if_neg hn]
    rw [e] at hd ⊢
    rw [atoi_pos hd]
    by_cases hv : val s < 9223372036854775808
    · rw [if_pos hv, if_pos hv]; exact .inl ⟨_, rfl, rfl⟩
    · rw [if_neg hv, if_neg hv]; exact .inr ⟨rfl, rfl⟩
end Go.Proofs.YtlblfblkallnhaaGreatDoor
