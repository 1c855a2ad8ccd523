/- WireRoundTrips: no short values. -/
import Derived.Test.YtlpkkcodmoklaaaWireLawsE
namespace Go.Proofs.Ytlpkkcodmoklaaa
open Go.RowKit
attribute [local go_sem] bs_size bs_get bs_append bs_extract bs_toList
set_option maxRecDepth 100000
theorem wireTrips_far (w : World) (u n : Int) (b : Bool) (s : List UInt8) (A : Option Addr) (m c : Nat) (p q : List UInt8) (hs : s.length ≤ 400) (hm : m ≤ 400) (h : 400 < p.length ∨ (p.length ≤ 400 ∧ 400 < q.length)) (hp : p.length ≤ 9223372036854775807) (hq : q.length ≤ 9223372036854775807) :
    Calls Try.prog 13 #[.agg #[.int .u64 u, .int .i64 n, .bool b, .string (bs s), .slice A m c], .string (bs p), .string (bs q)] w fun e w' => e = .returned (.bool true) ∧ Below w.heap.size w w' := by
  rcases h with h | ⟨h, h'⟩
  all_goals (
    go_enter Try.func13, Try.ntmps13
    go_wp2_with fail
    refine (short_yes u n b s A m c _ hs hm).mono ?_
    rintro e w1 ⟨rfl, hb1⟩
    go_wp2_with fail
    refine (alive03 _).mono ?_
    rintro e w2 ⟨rfl, hb2⟩
    go_wp2_with fail
    go_ret
    exact ⟨rfl, bthen (bthen ((Below.refl _ _).alloc (Nat.le_refl _) _) hb1) hb2⟩)
theorem wireTrips_big (w : World) (u n : Int) (b : Bool) (s : List UInt8) (A : Option Addr) (m c : Nat) (p q : List UInt8) (h : 400 < s.length ∨ (s.length ≤ 400 ∧ 400 < m)) (hs : s.length ≤ 9223372036854775807) (hm : m ≤ 9223372036854775807) :
    Calls Try.prog 13 #[.agg #[.int .u64 u, .int .i64 n, .bool b, .string (bs s), .slice A m c], .string (bs p), .string (bs q)] w fun e w' => e = .returned (.bool true) ∧ Below w.heap.size w w' := by
  go_enter Try.func13, Try.ntmps13
  go_wp2_with fail
  refine (short_no u n b s A m c _ h hs hm).mono ?_
  rintro e w1 ⟨rfl, hb1⟩
  go_wp2_with fail
  refine (alive03 _).mono ?_
  rintro e w2 ⟨rfl, hb2⟩
  go_wp2_with fail
  go_ret
  exact ⟨rfl, bthen (bthen ((Below.refl _ _).alloc (Nat.le_refl _) _) hb1) hb2⟩
end Go.Proofs.Ytlpkkcodmoklaaa
