/- More small lemmas for the walks of this seat. -/
import Derived.Test.YtfmfadafpbnjoaaDoorBase
namespace Go.Proofs.YtfmfadafpbnjoaaDoor
set_option linter.unusedVariables false
set_option linter.unusedSimpArgs false
open Go.RowKit
theorem fillA_get (xs : List Value) (N k : Nat) (z : Value) (hx : xs.length = N) (hk : k < N) : (fillA xs N k z)[k]? = some z := by
  unfold fillA
  rw [List.getElem?_toArray, List.getElem?_append_right (by rw [List.length_take]; omega), List.getElem?_replicate, if_pos (by rw [List.length_take]; omega)]
theorem fillB_get (xs : List Value) (k : Nat) (z : Value) : (fillB xs (k + 1) z)[k]? = some z := by
  unfold fillB
  rw [List.getElem?_toArray, List.getElem?_append_left (by simp), List.getElem?_replicate, if_pos (by omega)]
theorem fillB_none (xs : List Value) (N : Nat) (z : Value) (hx : xs.length = N) : fillB xs N z = (List.replicate N z).toArray := by
  subst hx
  simp [fillB]
theorem pow256 (k : Nat) : 256 ^ k = 2 ^ (8 * k) := by rw [Nat.pow_mul]
end Go.Proofs.YtfmfadafpbnjoaaDoor
