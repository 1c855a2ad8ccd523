/- The walks of Format, Name and their references. The walks of Name, of its reference, and of the comparisons of lists. -/
import Derived.Test.YtlblfblkallnhaaGreatDoorWdWalksB
import Derived.Deep.QuietTactic
import Derived.BigQuiet
namespace Go.Proofs.YtlblfblkallnhaaGreatDoor
set_option linter.unusedVariables false
set_option linter.unusedSimpArgs false
open Go.RowKit
attribute [local go_sem] bs_size bs_get bs_append bs_extract bs_toList
theorem format_any (n : Int) (w : World) (E : Env w) (h0 : -9223372036854775808 ≤ n) (h1 : n ≤ 9223372036854775807) :
    Calls Tryz.prog 21 #[.int .i64 n] w fun e w' => e = .returned (.string (bs (Lib.itoa n))) ∧ Below w.heap.size w w' := by
  go_enter Tryz.func21, Tryz.ntmps21
  go_wp2_with (go_at_call 47; refine (itoa_any n _ E h0 h1).mono ?_; rintro e w' ⟨rfl, hb⟩)
  go_ret
  exact ⟨rfl, hb⟩
/-! ### The reference's Format -/
end Go.Proofs.YtlblfblkallnhaaGreatDoor
namespace Go.Proofs.YtlblfblkallnhaaGreatDoor
set_option linter.unusedVariables false
set_option linter.unusedSimpArgs false
open Go.RowKit
attribute [local go_sem] bs_size bs_get bs_append bs_extract bs_toList
/-! ### Lists compared -/
/-- Some draws later. -/
def Dr (w w' : World) : Prop := ∃ n, w' = w.drewN n
theorem Dr.refl (w : World) : Dr w w := ⟨0, rfl⟩
theorem Dr.of (w : World) (n : Nat) : Dr w (w.drewN n) := ⟨n, rfl⟩
theorem Dr.drewN {w w1 : World} (h : Dr w w1) (n : Nat) : Dr w (w1.drewN n) := by
  obtain ⟨k, rfl⟩ := h
  exact ⟨k + n, by rw [World.drewN_drewN]⟩
theorem Dr.trans {w w1 w2 : World} (h : Dr w w1) (h2 : Dr w1 w2) : Dr w w2 := by
  obtain ⟨n, rfl⟩ := h2
  exact h.drewN n
theorem Dr.below {w w' : World} (h : Dr w w') : Below w.heap.size w w' := by
  obtain ⟨n, rfl⟩ := h
  exact Below.drewN (Below.refl _ _) n
theorem Dr.rds {α : Type} {c : Cod α} {w w' : World} {A : Option Addr} {l : List α} (h : Dr w w') (hr : RdS c w (Lt w) A l) : RdS c w' (Lt w') A l := hr.now h.below
theorem cI_cell {w : World} {S : Nat → Prop} {u : Value} {n : Int} (h : cI.rd w S [u] n) : u = .int .i64 n ∧ I64n n := ⟨(List.cons.inj h.1).1, h.2⟩
theorem cS_cell {w : World} {S : Nat → Prop} {u : Value} {l : List UInt8} (h : cS.rd w S [u] l) : u = .string (bs l) ∧ l.length ≤ maxLen := ⟨(List.cons.inj h.1).1, h.2⟩
theorem cLS_cell {α : Type} {c : Cod α} {w : World} {S : Nat → Prop} {u : Value} {l : List α} (h : (cL c).rd w S [u] l) : ∃ A cap, u = .slice A l.length cap ∧ l.length ≤ maxLen ∧ RdS c w S A l := by
  obtain ⟨A, cap, h1, h2, h3⟩ := h
  exact ⟨A, cap, (List.cons.inj h1).1, h2.1, h3⟩
theorem cLS_cell2 {α : Type} {c : Cod α} {w : World} {S : Nat → Prop} {u : Value} {l : List α} (h : (cL c).rd w S [u] l) : ∃ A cap, u = .slice A l.length cap ∧ (l.length ≤ maxLen ∧ l.length ≤ cap) ∧ RdS c w S A l := by
  obtain ⟨A, cap, h1, h2, h3⟩ := h
  exact ⟨A, cap, (List.cons.inj h1).1, h2, h3⟩
theorem take_eq_snoc {α : Type} {a b : List α} {k : Nat} (ha : k < a.length) (hb : k < b.length) (h : a.take k = b.take k) (e : a[k] = b[k]) : a.take (k + 1) = b.take (k + 1) := by
  rw [List.take_succ_eq_append_getElem ha, List.take_succ_eq_append_getElem hb, h, e]
theorem ne_of_at {α : Type} {a b : List α} {k : Nat} (ha : k < a.length) (hb : k < b.length) (e : a[k] ≠ b[k]) : a ≠ b := by
  rintro rfl
  exact e rfl
theorem eq_of_take {α : Type} {a b : List α} {k : Nat} (ha : ¬ k < a.length) (hl : a.length = b.length) (h : a.take k = b.take k) : a = b := by
  rwa [List.take_of_length_le (by omega), List.take_of_length_le (by omega)] at h
end Go.Proofs.YtlblfblkallnhaaGreatDoor
