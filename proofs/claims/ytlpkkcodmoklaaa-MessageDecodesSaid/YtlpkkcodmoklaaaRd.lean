/- A slice that reads as a list of cells, nil and empty ones let in. -/
import Derived.Test.YtlpkkcodmoklaaaOwn
namespace Go.Proofs.Ytlpkkcodmoklaaa
open Go.RowKit
/-- The slice value v has n elements of 'size' cells each, which read xs; it lies below block B. -/
def Rd (w : World) (B size : Nat) (v : Value) (n : Nat) (xs : List Value) : Prop :=
  xs.length = n * size ∧ ∃ A c, v = .slice A n c ∧ (0 < n → ∃ b off, A = some ⟨b, off, none⟩ ∧ b < B ∧ ∀ j u, xs[j]? = some u → w.cell? ⟨b, off + j, none⟩ = some u)
def cellsI (l : List Int) : List Value := l.map fun n => .int .i64 n
theorem cellsI_length (l : List Int) : (cellsI l).length = l.length := by simp [cellsI]
theorem cellsI_get {l : List Int} {j : Nat} (h : j < l.length) : (cellsI l)[j]? = some (.int .i64 l[j]) := by simp [cellsI, h]
theorem cellsI_snoc (l : List Int) (n : Int) : cellsI (l ++ [n]) = cellsI l ++ [.int .i64 n] := by simp [cellsI]
section
variable {w w' : World} {B B' size n : Nat} {v : Value} {xs : List Value}
theorem Rd.keep (h : Rd w B size v n xs) (hk : ∀ p : Addr, p.block < B → w'.cell? p = w.cell? p) : Rd w' B size v n xs := by
  obtain ⟨h1, A, c, h2, h3⟩ := h
  refine ⟨h1, A, c, h2, fun hn => ?_⟩
  obtain ⟨b, off, e, hb, hc⟩ := h3 hn
  exact ⟨b, off, e, hb, fun j u hu => (hk _ hb).trans (hc j u hu)⟩
theorem Rd.below (h : Rd w B size v n xs) (hb : Below B w w') : Rd w' B size v n xs := h.keep fun _ hp => hb.cell hp
theorem Rd.more (h : Rd w B size v n xs) (hB : B ≤ B') : Rd w B' size v n xs := by
  obtain ⟨h1, A, c, h2, h3⟩ := h
  refine ⟨h1, A, c, h2, fun hn => ?_⟩
  obtain ⟨b, off, e, hb, hc⟩ := h3 hn
  exact ⟨b, off, e, by omega, hc⟩
theorem Rd.drewN (h : Rd w B size v n xs) (k : Nat) : Rd (w.drewN k) B size v n xs := h
theorem Rd.of_own {base : Nat} {e : TypeId} (h : w.ownsRow base e size v n xs) : Rd w w.heap.size size v n xs := by
  refine ⟨h.1, ?_⟩
  rcases h.2 with ⟨rfl, rfl⟩ | ⟨g, cap, cur, rfl, _, hg, _, _, _, htake⟩
  · exact ⟨none, 0, rfl, fun hn => absurd hn (by omega)⟩
  · refine ⟨_, _, rfl, fun _ => ⟨g, 0, rfl, (Array.getElem?_eq_some_iff.1 hg).1, fun j u hu => ?_⟩⟩
    rw [Nat.zero_add, cell_of_row w g j cur e (0, 0) hg]
    rw [← htake, List.getElem?_take] at hu
    split at hu
    · simpa using hu
    · cases hu
end
end Go.Proofs.Ytlpkkcodmoklaaa
