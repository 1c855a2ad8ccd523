/- WireRoundTrips: for every argument. -/
import Derived.Test.YtlpkkcodmoklaaaWireLawsF
import Derived.Test.YtlpkkcodmoklaaaWireLawsG
namespace Go.Proofs.Ytlpkkcodmoklaaa
open Go.RowKit
theorem wireRoundTrips_walk (w : World) (u : Nat) (n : Int) (b : Bool) (s : List UInt8) (A : Option Addr) (L : List Int) (c : Nat) (hu : u < 18446744073709551616) (h1 : -9223372036854775808 ≤ n) (h2 : n ≤ 9223372036854775807) (hs : s.length ≤ maxLen) (hL : L.length ≤ maxLen) (hI : I64 L)
    (hr : Rd w w.heap.size 1 (.slice A L.length c) L.length (cellsI L)) (p' : ByteArray) (hp : p'.size ≤ maxLen) (q' : ByteArray) (hq : q'.size ≤ maxLen) :
    Calls Try.prog 13 #[.agg #[.int .u64 u, .int .i64 n, .bool b, .string (bs s), .slice A L.length c], .string p', .string q'] w fun e w' => e = .returned (.bool true) ∧ Below w.heap.size w w' := by
  have e : maxLen ≤ 9223372036854775807 := by decide
  obtain ⟨p, rfl⟩ := bs_of p'
  obtain ⟨q, rfl⟩ := bs_of q'
  rw [bs_size] at hp hq
  by_cases h : s.length ≤ 400
  · by_cases h' : L.length ≤ 400
    · by_cases a : p.length ≤ 400
      · by_cases a' : q.length ≤ 400
        · exact wireTrips_few w u n b s L A c p q h h' hu h1 h2 hI hr a a'
        · exact wireTrips_far w u n b s A L.length c p q h h' (.inr ⟨a, by omega⟩) (by omega) (by omega)
      · exact wireTrips_far w u n b s A L.length c p q h h' (.inl (by omega)) (by omega) (by omega)
    · exact wireTrips_big w u n b s A L.length c p q (.inr ⟨h, by omega⟩) (by omega) (by omega)
  · exact wireTrips_big w u n b s A L.length c p q (.inl (by omega)) (by omega) (by omega)
end Go.Proofs.Ytlpkkcodmoklaaa
