/- The walks of Format, Name and their references. The walks of Name, of its reference, and of the comparisons of lists. -/
import Derived.Test.YtlblfblkallnhaaGreatDoorWdWalksB
import Derived.Deep.QuietTactic
import Derived.BigQuiet
namespace Go.Proofs.YtlblfblkallnhaaGreatDoor
set_option linter.unusedVariables false
set_option linter.unusedSimpArgs false
open Go.RowKit
attribute [local go_sem] bs_size bs_get bs_append bs_extract bs_toList
theorem format_any (n : Int) (w : World) (E : Env w) (h0 : -9223372036854775808 ≤ n) (h1 : n ≤ 9223372036854775807) :
    Calls Tryz.prog 21 #[.int .i64 n] w fun e w' => e = .returned (.string (bs (Lib.itoa n))) ∧ Below w.heap.size w w' := by
  go_enter Tryz.func21, Tryz.ntmps21
  go_wp2_with (go_at_call 47; refine (itoa_any n _ E h0 h1).mono ?_; rintro e w' ⟨rfl, hb⟩)
  go_ret
  exact ⟨rfl, hb⟩
/-! ### The reference's Format -/
def fmtI (u a : Nat) (s : List UInt8) : Prop := (s = [] ∧ a = u) ∨ (s ≠ [] ∧ a = 0 ∧ s = Lib.decDigits u) ∨ (s ≠ [] ∧ a ≠ 0 ∧ Lib.decDigits a ++ s = Lib.decDigits u)
theorem fmtI_step {u a : Nat} {s : List UInt8} (h : fmtI u a s) (hc : a ≠ 0 ∨ s = []) : fmtI u (a / 10) (UInt8.ofNat (48 + a % 10) :: s) := by
  have key : ∀ r : List UInt8, Lib.decDigits a ++ r = if a / 10 = 0 then UInt8.ofNat (48 + a % 10) :: r else Lib.decDigits (a / 10) ++ UInt8.ofNat (48 + a % 10) :: r := by
    intro r
    rw [Lib.decDigits]
    by_cases h10 : a < 10
    · rw [dif_pos h10, if_pos (by omega), show a % 10 = a by omega]; rfl
    · rw [dif_neg h10, if_neg (by omega)]; simp
  have k : Lib.decDigits a ++ s = Lib.decDigits u := by
    rcases h with ⟨h1, h2⟩ | ⟨h1, h2, _⟩ | ⟨_, _, h⟩
    · rw [h1, h2, List.append_nil]
    · rcases hc with hc | hc
      · exact absurd h2 hc
      · exact absurd hc h1
    · exact h
  rw [key] at k
  by_cases hz : a / 10 = 0
  · rw [if_pos hz] at k
    exact .inr (.inl ⟨by simp, hz, k⟩)
  · rw [if_neg hz] at k
    exact .inr (.inr ⟨by simp, hz, k⟩)
theorem fmtI_len {u a : Nat} {s : List UInt8} (h : fmtI u a s) (hu : u < 18446744073709551616) : s.length ≤ 20 := by
  have hl : (Lib.decDigits u).length ≤ 20 := by rw [Lib.decDigits_length]; exact Lib.nDigits_le20 u hu
  rcases h with ⟨h1, _⟩ | ⟨_, _, h1⟩ | ⟨_, _, h1⟩
  · rw [h1]; simp
  · rw [h1]; exact hl
  · rw [← h1, List.length_append] at hl; omega
theorem fmtI_end {u : Nat} {s : List UInt8} (h : fmtI u 0 s) (hs : s ≠ []) : s = Lib.decDigits u := by
  rcases h with ⟨h1, _⟩ | ⟨_, _, h1⟩ | ⟨_, h1, _⟩
  · exact absurd h1 hs
  · exact h1
  · exact absurd rfl h1
def strN : Value → Nat
  | .string b => if b.size = 0 then 1 else 0
  | _ => 0
theorem strN_bs (l : List UInt8) : strN (.string (bs l)) = if l.length = 0 then 1 else 0 := by show (if (bs l).size = 0 then 1 else 0) = _; rw [bs_size]
theorem digit_piece : ∀ d : Fin 10, (bs [48, 49, 50, 51, 52, 53, 54, 55, 56, 57]).extract d.val (d.val + 1) = bs [UInt8.ofNat (48 + d.val)] := by decide +kernel
set_option maxRecDepth 100000 in
set_option maxHeartbeats 4000000 in
theorem rformat_pos (u : Nat) (w : World) (hu : u < 9223372036854775808) :
    Calls Tryz.prog 24 #[.int .i64 (u : Int)] w fun e w' => e = .returned (.string (bs (Lib.decDigits u))) ∧ w = w' := by
  go_enter Tryz.func24, Tryz.ntmps24
  go_wp2_with fail
  go_loop [3, 4] (fun sv m => ∃ (a : Nat) (s : List UInt8), m = .int .i64 (a : Int) ∧ sv = .string (bs s) ∧ a ≤ u ∧ Hid (fmtI u a s)) (fun sv m => 2 * (intOf m).natAbs + strN sv)
  case atStart => exact ⟨u, [], rfl, rfl, Nat.le_refl _, Lib.hid (.inl ⟨rfl, rfl⟩)⟩
  case round =>
    obtain ⟨a, s, rfl, rfl, ha, HI⟩ := hrel
    have hl := fmtI_len HI.out (by omega)
    by_cases hc : a ≠ 0 ∨ s = []
    · have HN := Lib.hid (fmtI_step HI.out hc)
      have hp := digit_piece ⟨a % 10, by omega⟩
      simp only at hp
      obtain ⟨d, hd⟩ : ∃ d, d = a % 10 := ⟨_, rfl⟩
      obtain ⟨q, hq⟩ : ∃ q, q = a / 10 := ⟨_, rfl⟩
      have hd10 : d < 10 := by omega
      have hqu : q ≤ u := by omega
      have hmeas : 2 * q < 2 * a + (if s.length = 0 then 1 else 0) := by
        rcases hc with hc | hc
        · split <;> omega
        · rw [if_pos (by rw [hc]; rfl)]; omega
      have HM := Lib.hid hmeas
      rw [← hd] at hp HN
      rw [← hq] at HN
      have hp2 : ({ data := #[48, 49, 50, 51, 52, 53, 54, 55, 56, 57] } : ByteArray).extract d (d + 1) = bs [UInt8.ofNat (48 + d)] := hp
      have hr1 : (a : Int).tmod 10 = (d : Int) := by rw [Int.tmod_eq_emod_of_nonneg (by omega)]; omega
      have hr2 : (a : Int).tdiv 10 = (q : Int) := by rw [Int.tdiv_eq_ediv_of_nonneg (by omega)]; omega
      have hr3 : (a : Int) % 10 = (d : Int) := by omega
      have hr4 : (a : Int) / 10 = (q : Int) := by omega
      have hsl : ∀ w, (Instr.slice 9 (.string { data := #[48, 49, 50, 51, 52, 53, 54, 55, 56, 57] }) (some (.int .i64 (d : Int))) (some (.int .i64 ((d : Int) + 1))) none).run Tryz.prog w = .ok (.string (bs [UInt8.ofNat (48 + d)])) w := by
        intro w
        have h10 : (({ data := #[48, 49, 50, 51, 52, 53, 54, 55, 56, 57] } : ByteArray).size) = 10 := rfl
        rw [run_slice_string w _ _ .i64 .i64 (d : Int) ((d : Int) + 1) Tryz.underlying9 (by omega) (by omega) (by rw [h10]; omega)]
        have e1 : ((d : Int) + 1).toNat = d + 1 := by omega
        rw [Int.toNat_natCast, e1, hp2]
      have q1 : ¬ 9223372036854775807 < [UInt8.ofNat (48 + d)].length + s.length := by simp; omega
      have hs0 : s = [] ∨ (s == []) = false := by cases s <;> simp
      have HD := Lib.hid hd
      have HQ := Lib.hid hq
      clear hd hq hmeas hp
      by_cases hz : a = 0
      · have hse : s = [] := by
          rcases hc with hc | hc
          · exact absurd hz hc
          · exact hc
        subst hse
        subst hz
        clear hc hs0
        have H0 : Hid (q = 0 ∧ d = 0) := Lib.hid ⟨by have := HQ.out; omega, by have := HD.out; omega⟩
        clear hr1 hr2 hr3 hr4 hsl hp2 hd10 hqu q1
        go_wp2_with fail
        go_round
        case rel => exact ⟨0, [48], rfl, congrArg Value.string (by decide +kernel), Nat.zero_le _, Lib.hid (by have := HN.out; rw [H0.out.1, H0.out.2] at this; exact this)⟩
        case measure => decide
      · have ha0 : ((a : Int) == 0) = false := by simp; omega
        go_wp2_with fail
        all_goals first
          | (go_round
             case rel => exact ⟨q, UInt8.ofNat (48 + d) :: s, by first | rfl | (congr 1; simp), by simp, hqu, HN⟩
             case measure =>
              have := HM.out
              rw [strN_bs, strN_bs]
              simp [intOf] at this ⊢
              omega)
          | (exfalso; omega)
    · have hc1 : a = 0 := by omega
      subst hc1
      have hne : s ≠ [] := fun h => hc (Or.inr h)
      have HE := Lib.hid (fmtI_end HI.out hne)
      have hs1 : (s == []) = false := by simp [hne]
      have hs2 : s.isEmpty = false := by simp [hne]
      have q1 : ¬ 9223372036854775807 < [(45 : UInt8)].length + s.length := by simp; omega
      clear hc hne
      go_wp2_with fail
      go_ret
      refine ⟨?_, rfl⟩
      rw [← HE.out]
      try rfl
set_option maxRecDepth 100000 in
set_option maxHeartbeats 4000000 in
theorem rformat_neg (u : Nat) (w : World) (hu : u ≤ 9223372036854775808) (hu0 : 0 < u) :
    Calls Tryz.prog 24 #[.int .i64 (-(u : Int))] w fun e w' => e = .returned (.string (bs (45 :: Lib.decDigits u))) ∧ w = w' := by
  go_enter Tryz.func24, Tryz.ntmps24
  go_wp2_with fail
  go_loop [3, 4] (fun sv m => ∃ (a : Nat) (s : List UInt8), m = .int .i64 (-(a : Int)) ∧ sv = .string (bs s) ∧ a ≤ u ∧ Hid (fmtI u a s)) (fun sv m => 2 * (intOf m).natAbs + strN sv)
  case atStart => exact ⟨u, [], rfl, rfl, Nat.le_refl _, Lib.hid (.inl ⟨rfl, rfl⟩)⟩
  case round =>
    obtain ⟨a, s, rfl, rfl, ha, HI⟩ := hrel
    have hl := fmtI_len HI.out (by omega)
    by_cases hc : a ≠ 0 ∨ s = []
    · have HN := Lib.hid (fmtI_step HI.out hc)
      have hp := digit_piece ⟨a % 10, by omega⟩
      simp only at hp
      obtain ⟨d, hd⟩ : ∃ d, d = a % 10 := ⟨_, rfl⟩
      obtain ⟨q, hq⟩ : ∃ q, q = a / 10 := ⟨_, rfl⟩
      have hd10 : d < 10 := by omega
      have hqu : q ≤ u := by omega
      have hmeas : 2 * q < 2 * a + (if s.length = 0 then 1 else 0) := by
        rcases hc with hc | hc
        · split <;> omega
        · rw [if_pos (by rw [hc]; rfl)]; omega
      have HM := Lib.hid hmeas
      rw [← hd] at hp HN
      rw [← hq] at HN
      have hp2 : ({ data := #[48, 49, 50, 51, 52, 53, 54, 55, 56, 57] } : ByteArray).extract d (d + 1) = bs [UInt8.ofNat (48 + d)] := hp
      have hr1 : (-(a : Int)).tmod 10 = -(d : Int) := by rw [Int.neg_tmod, Int.tmod_eq_emod_of_nonneg (by omega)]; omega
      have hr2 : (-(a : Int)).tdiv 10 = -(q : Int) := by rw [Int.neg_tdiv, Int.tdiv_eq_ediv_of_nonneg (by omega)]; omega
      have hr3 : -9223372036854775808 ≤ -(a : Int) := by omega
      have hr4 : -(a : Int) ≤ 0 := by omega
      have hsl : ∀ w, (Instr.slice 9 (.string { data := #[48, 49, 50, 51, 52, 53, 54, 55, 56, 57] }) (some (.int .i64 (d : Int))) (some (.int .i64 ((d : Int) + 1))) none).run Tryz.prog w = .ok (.string (bs [UInt8.ofNat (48 + d)])) w := by
        intro w
        have h10 : (({ data := #[48, 49, 50, 51, 52, 53, 54, 55, 56, 57] } : ByteArray).size) = 10 := rfl
        rw [run_slice_string w _ _ .i64 .i64 (d : Int) ((d : Int) + 1) Tryz.underlying9 (by omega) (by omega) (by rw [h10]; omega)]
        have e1 : ((d : Int) + 1).toNat = d + 1 := by omega
        rw [Int.toNat_natCast, e1, hp2]
      have q1 : ¬ 9223372036854775807 < [UInt8.ofNat (48 + d)].length + s.length := by simp; omega
      have hs0 : s = [] ∨ (s == []) = false := by cases s <;> simp
      have HD := Lib.hid hd
      have HQ := Lib.hid hq
      clear hd hq hmeas hp
      by_cases hz : a = 0
      · have hse : s = [] := by
          rcases hc with hc | hc
          · exact absurd hz hc
          · exact hc
        subst hse
        subst hz
        clear hc hs0
        have H0 : Hid (q = 0 ∧ d = 0) := Lib.hid ⟨by have := HQ.out; omega, by have := HD.out; omega⟩
        clear hr1 hr2 hr3 hr4 hsl hp2 hd10 hqu q1
        go_wp2_with fail
        go_round
        case rel => exact ⟨0, [48], rfl, congrArg Value.string (by decide +kernel), Nat.zero_le _, Lib.hid (by have := HN.out; rw [H0.out.1, H0.out.2] at this; exact this)⟩
        case measure => decide
      · have ha0 : ((-(a : Int)) == 0) = false := by simp; omega
        rcases Nat.eq_zero_or_pos d with hd0 | hd0
        · subst hd0
          have hr1' : (-(a : Int)).tmod 10 = 0 := by rw [hr1]; rfl
          have hsl0 : ∀ w, (Instr.slice 9 (.string { data := #[48, 49, 50, 51, 52, 53, 54, 55, 56, 57] }) (some (.int .i64 0)) (some (.int .i64 1)) none).run Tryz.prog w = .ok (.string (bs [48])) w := hsl
          clear hr1 hsl hp2
          go_wp2_with fail
          go_round
          case rel => exact ⟨q, 48 :: s, rfl, by simp, hqu, HN⟩
          case measure =>
            have := HM.out
            rw [strN_bs, strN_bs]
            simp [intOf] at this ⊢
            omega
        · go_wp2_with fail
          go_round
          case rel => exact ⟨q, UInt8.ofNat (48 + d) :: s, by first | rfl | (congr 1; simp), by simp, hqu, HN⟩
          case measure =>
            have := HM.out
            rw [strN_bs, strN_bs]
            simp [intOf] at this ⊢
            omega
    · have hc1 : a = 0 := by omega
      subst hc1
      have hne : s ≠ [] := fun h => hc (Or.inr h)
      have HE := Lib.hid (fmtI_end HI.out hne)
      have hs1 : (s == []) = false := by simp [hne]
      have hs2 : s.isEmpty = false := by simp [hne]
      have q1 : ¬ 9223372036854775807 < [(45 : UInt8)].length + s.length := by simp; omega
      clear hc hne
      have hneg : decide (-(u : Int) < 0) = true := by rw [decide_eq_true_iff]; omega
      go_wp2_with fail
      go_ret
      refine ⟨?_, rfl⟩
      rw [← HE.out]
      try rfl
theorem rformat_any (n : Int) (w : World) (h0 : -9223372036854775808 ≤ n) (h1 : n ≤ 9223372036854775807) :
    Calls Tryz.prog 24 #[.int .i64 n] w fun e w' => e = .returned (.string (bs (Lib.itoa n))) ∧ w = w' := by
  unfold Lib.itoa
  by_cases hn : n < 0
  · rw [if_pos hn]
    have h := rformat_neg n.natAbs w (by omega) (by omega)
    have e : -((n.natAbs : Nat) : Int) = n := by omega
    rw [e] at h
    exact h
  · rw [if_neg hn]
    have h := rformat_pos n.toNat w (by omega)
    have e : ((n.toNat : Nat) : Int) = n := by omega
    rw [e] at h
    exact h
end Go.Proofs.YtlblfblkallnhaaGreatDoor
namespace Go.Proofs.YtlblfblkallnhaaGreatDoor
set_option linter.unusedVariables false
set_option linter.unusedSimpArgs false
open Go.RowKit
attribute [local go_sem] bs_size bs_get bs_append bs_extract bs_toList
theorem nmB_iff {c : UInt8} : nmB c = true ↔ (97 ≤ c.toNat ∧ c.toNat ≤ 122) ∨ (48 ≤ c.toNat ∧ c.toNat ≤ 57) ∨ c.toNat = 95 := by
  unfold nmB; simp only [Bool.or_eq_true, Bool.and_eq_true, decide_eq_true_eq]
theorem loB_iff {c : UInt8} : loB c = true ↔ 97 ≤ c.toNat ∧ c.toNat ≤ 122 := by
  unfold loB; simp only [Bool.and_eq_true, decide_eq_true_eq]
theorem nameB_all {s : List UInt8} (h : s.all nmB = false) : nameB s = false := by unfold nameB; rw [h]; simp
theorem nameB_cons (a : UInt8) (t : List UInt8) : nameB (a :: t) = (decide (t.length + 1 ≤ 12) && (loB a && (a :: t).all nmB)) := by
  unfold nameB
  have : decide (1 ≤ (a :: t).length) = true := by simp
  rw [this, Bool.true_and]
  simp only [List.length_cons, List.head?_cons, Option.map_some, Option.getD_some]
/-! ### Lists compared -/
/-- Some draws later. -/
def Dr (w w' : World) : Prop := ∃ n, w' = w.drewN n
theorem Dr.refl (w : World) : Dr w w := ⟨0, rfl⟩
theorem Dr.of (w : World) (n : Nat) : Dr w (w.drewN n) := ⟨n, rfl⟩
theorem Dr.drewN {w w1 : World} (h : Dr w w1) (n : Nat) : Dr w (w1.drewN n) := by
  obtain ⟨k, rfl⟩ := h
  exact ⟨k + n, by rw [World.drewN_drewN]⟩
theorem Dr.trans {w w1 w2 : World} (h : Dr w w1) (h2 : Dr w1 w2) : Dr w w2 := by
  obtain ⟨n, rfl⟩ := h2
  exact h.drewN n
theorem Dr.below {w w' : World} (h : Dr w w') : Below w.heap.size w w' := by
  obtain ⟨n, rfl⟩ := h
  exact Below.drewN (Below.refl _ _) n
theorem Dr.rds {α : Type} {c : Cod α} {w w' : World} {A : Option Addr} {l : List α} (h : Dr w w') (hr : RdS c w (Lt w) A l) : RdS c w' (Lt w') A l := hr.now h.below
theorem cI_cell {w : World} {S : Nat → Prop} {u : Value} {n : Int} (h : cI.rd w S [u] n) : u = .int .i64 n ∧ I64n n := ⟨(List.cons.inj h.1).1, h.2⟩
theorem cS_cell {w : World} {S : Nat → Prop} {u : Value} {l : List UInt8} (h : cS.rd w S [u] l) : u = .string (bs l) ∧ l.length ≤ maxLen := ⟨(List.cons.inj h.1).1, h.2⟩
theorem cLS_cell {α : Type} {c : Cod α} {w : World} {S : Nat → Prop} {u : Value} {l : List α} (h : (cL c).rd w S [u] l) : ∃ A cap, u = .slice A l.length cap ∧ l.length ≤ maxLen ∧ RdS c w S A l := by
  obtain ⟨A, cap, h1, h2, h3⟩ := h
  exact ⟨A, cap, (List.cons.inj h1).1, h2.1, h3⟩
theorem cLS_cell2 {α : Type} {c : Cod α} {w : World} {S : Nat → Prop} {u : Value} {l : List α} (h : (cL c).rd w S [u] l) : ∃ A cap, u = .slice A l.length cap ∧ (l.length ≤ maxLen ∧ l.length ≤ cap) ∧ RdS c w S A l := by
  obtain ⟨A, cap, h1, h2, h3⟩ := h
  exact ⟨A, cap, (List.cons.inj h1).1, h2, h3⟩
theorem take_eq_snoc {α : Type} {a b : List α} {k : Nat} (ha : k < a.length) (hb : k < b.length) (h : a.take k = b.take k) (e : a[k] = b[k]) : a.take (k + 1) = b.take (k + 1) := by
  rw [List.take_succ_eq_append_getElem ha, List.take_succ_eq_append_getElem hb, h, e]
theorem ne_of_at {α : Type} {a b : List α} {k : Nat} (ha : k < a.length) (hb : k < b.length) (e : a[k] ≠ b[k]) : a ≠ b := by
  rintro rfl
  exact e rfl
theorem eq_of_take {α : Type} {a b : List α} {k : Nat} (ha : ¬ k < a.length) (hl : a.length = b.length) (h : a.take k = b.take k) : a = b := by
  rwa [List.take_of_length_le (by omega), List.take_of_length_le (by omega)] at h
theorem quiet_dr {P : Program} {f : FuncId} {args : Array Value} {w : World} {n : Nat} {v : Value} (h : Calls P f args (w.drewN n) fun e w' => e = .returned v ∧ Dr (w.drewN n) w') : Calls P f args (w.drewN n) fun e w'' => e = .returned v ∧ ∃ m, w'' = w.drewN m :=
  Calls.quiet_of (h.mono fun _ _ ⟨he, m, hm⟩ => ⟨he, m, hm⟩)
end Go.Proofs.YtlblfblkallnhaaGreatDoor
