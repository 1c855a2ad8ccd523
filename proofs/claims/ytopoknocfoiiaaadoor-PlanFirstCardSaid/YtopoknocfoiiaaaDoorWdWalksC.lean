/- The walks of Format, Name and their references. -/
import Derived.Test.YtopoknocfoiiaaaDoorWdWalksB
namespace Go.Proofs.YtopoknocfoiiaaaDoor
set_option linter.unusedVariables false
set_option linter.unusedSimpArgs false
open Go.RowKit
attribute [local go_sem] bs_size bs_get bs_append bs_extract bs_toList
theorem format_any (n : Int) (w : World) (E : Env w) (h0 : -9223372036854775808 ≤ n) (h1 : n ≤ 9223372036854775807) :
    Calls Tryd.prog 18 #[.int .i64 n] w fun e w' => e = .returned (.string (bs (Lib.itoa n))) ∧ Below w.heap.size w w' := by
  go_enter Tryd.func18, Tryd.ntmps18
  go_wp2_with (go_at_call 38; refine (itoa_any n _ E h0 h1).mono ?_; rintro e w' ⟨rfl, hb⟩)
  go_ret
  exact ⟨rfl, hb⟩
/-! ### The reference's Format -/
def fmtI (u a : Nat) (s : List UInt8) : Prop := (s = [] ∧ a = u) ∨ (s ≠ [] ∧ a = 0 ∧ s = Lib.decDigits u) ∨ (s ≠ [] ∧ a ≠ 0 ∧ Lib.decDigits a ++ s = Lib.decDigits u)
theorem fmtI_step {u a : Nat} {s : List UInt8} (h : fmtI u a s) (hc : a ≠ 0 ∨ s = []) : fmtI u (a / 10) (UInt8.ofNat (48 + a % 10) :: s) := by
  have key : ∀ r : List UInt8, Lib.decDigits a ++ r = if a / 10 = 0 then UInt8.ofNat (48 + a % 10) :: r else Lib.decDigits (a / 10) ++ UInt8.ofNat (48 + a % 10) :: r := by
    intro r
    rw [Lib.decDigits]
    by_cases h10 : a < 10
    · rw [dif_pos h10, if_pos (by omega), show a % 10 = a by omega]; rfl
    · rw [dif_neg h10, if_neg (by omega)]; simp
  have k : Lib.decDigits a ++ s = Lib.decDigits u := by
    rcases h with ⟨h1, h2⟩ | ⟨h1, h2, _⟩ | ⟨_, _, h⟩
    · rw [h1, h2, List.append_nil]
    · rcases hc with hc | hc
      · exact absurd h2 hc
      · exact absurd hc h1
    · exact h
  rw [key] at k
  by_cases hz : a / 10 = 0
  · rw [if_pos hz] at k
    exact .inr (.inl ⟨by simp, hz, k⟩)
  · rw [if_neg hz] at k
    exact .inr (.inr ⟨by simp, hz, k⟩)
theorem fmtI_len {u a : Nat} {s : List UInt8} (h : fmtI u a s) (hu : u < 18446744073709551616) : s.length ≤ 20 := by
  have hl : (Lib.decDigits u).length ≤ 20 := by rw [Lib.decDigits_length]; exact Lib.nDigits_le20 u hu
  rcases h with ⟨h1, _⟩ | ⟨_, _, h1⟩ | ⟨_, _, h1⟩
  · rw [h1]; simp
  · rw [h1]; exact hl
  · rw [← h1, List.length_append] at hl; omega
theorem fmtI_end {u : Nat} {s : List UInt8} (h : fmtI u 0 s) (hs : s ≠ []) : s = Lib.decDigits u := by
  rcases h with ⟨h1, _⟩ | ⟨_, _, h1⟩ | ⟨_, h1, _⟩
  · exact absurd h1 hs
  · exact h1
  · exact absurd rfl h1
def strN : Value → Nat
  | .string b => if b.size = 0 then 1 else 0
  | _ => 0
theorem strN_bs (l : List UInt8) : strN (.string (bs l)) = if l.length = 0 then 1 else 0 := by show (if (bs l).size = 0 then 1 else 0) = _; rw [bs_size]
theorem digit_piece : ∀ d : Fin 10, (bs [48, 49, 50, 51, 52, 53, 54, 55, 56, 57]).extract d.val (d.val + 1) = bs [UInt8.ofNat (48 + d.val)] := by decide +kernel
end Go.Proofs.YtopoknocfoiiaaaDoor
