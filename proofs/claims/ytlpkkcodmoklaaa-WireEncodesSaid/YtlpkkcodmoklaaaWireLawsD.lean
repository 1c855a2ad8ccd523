/- WireEncodes: for every argument. -/
import Derived.Test.YtlpkkcodmoklaaaWireLawsC
namespace Go.Proofs.Ytlpkkcodmoklaaa
open Go.RowKit
theorem wireEncodes_walk (w : World) (u : Nat) (n : Int) (b : Bool) (s : List UInt8) (A : Option Addr) (L : List Int) (c : Nat) (hu : u < 18446744073709551616) (h1 : -9223372036854775808 ≤ n) (h2 : n ≤ 9223372036854775807) (hs : s.length ≤ maxLen) (hL : L.length ≤ maxLen) (hI : I64 L)
    (hr : Rd w w.heap.size 1 (.slice A L.length c) L.length (cellsI L)) :
    Calls Try.prog 12 #[.agg #[.int .u64 u, .int .i64 n, .bool b, .string (bs s), .slice A L.length c]] w fun e w' => e = .returned (.bool true) ∧ Below w.heap.size w w' := by
  have e : maxLen ≤ 9223372036854775807 := by decide
  by_cases h : s.length ≤ 400
  · by_cases h' : L.length ≤ 400
    · exact wireEncodes_few u n b s L A c _ h h' hu h1 h2 hI hr
    · exact wireEncodes_big u n b s A L.length c _ (.inr ⟨h, by omega⟩) (by omega) (by omega)
  · exact wireEncodes_big u n b s A L.length c _ (.inl (by omega)) (by omega) (by omega)
end Go.Proofs.Ytlpkkcodmoklaaa
