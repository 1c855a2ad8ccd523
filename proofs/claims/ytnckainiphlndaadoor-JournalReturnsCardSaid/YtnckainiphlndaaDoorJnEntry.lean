/- The walk of the program's function that reads a line. -/
import Derived.Test.YtnckainiphlndaaDoorJnPrint
import Derived.Laws.BitsLemmas
namespace Go.Proofs.YtnckainiphlndaaDoor
set_option linter.unusedVariables false
set_option linter.unusedSimpArgs false
open Go.RowKit
attribute [local go_sem] bs_size bs_get bs_append bs_extract bs_toList
theorem cut_sp (s : List UInt8) (w : World) (E : Env w) (hs : s.length < 4294967281) :
    Calls Tryd.prog 32 #[.string (bs s), .string (bs [32])] w fun e w' => e = .returned (.tuple #[.string (bs (Lib.cut s [32]).1), .string (bs (Lib.cut s [32]).2.1), .bool (Lib.cut s [32]).2.2]) ∧ Below w.heap.size w w' := by
  obtain ⟨m, hm⟩ := E.max
  exact (Tryd.strings_Cut (bs s) (bs [32]) m w (by rw [bs_size]; exact hs) hm).mono fun _ _ ⟨h, n, hw⟩ => ⟨h, hw ▸ Below.drewN (Below.refl _ _) n⟩
theorem cut_sp_no (s : List UInt8) (w : World) (E : Env w) (hs : s.length < 4294967281) (h : (32 : UInt8) ∉ s) :
    Calls Tryd.prog 32 #[.string (bs s), .string (bs [32])] w fun e w' => e = .returned (.tuple #[.string (bs s), .string (bs []), .bool false]) ∧ Below w.heap.size w w' := by
  have h2 := cut_sp s w E hs
  rw [cut_no h] at h2
  exact h2
theorem cut_sp_at (a b : List UInt8) (w : World) (E : Env w) (hs : (a ++ 32 :: b).length < 4294967281) (h : (32 : UInt8) ∉ a) :
    Calls Tryd.prog 32 #[.string (bs (a ++ 32 :: b)), .string (bs [32])] w fun e w' => e = .returned (.tuple #[.string (bs a), .string (bs b), .bool true]) ∧ Below w.heap.size w w' := by
  have h2 := cut_sp (a ++ 32 :: b) w E hs
  rw [cut_at h] at h2
  exact h2
theorem intC {s : List UInt8} {n x : Int} (h : intF s = (n, x)) (w : World) (E : EnvR w) (hs : s.length ≤ 281474976710656) :
    Calls Tryd.prog 42 #[.string (bs s)] w fun e w' => e = .returned (.tuple #[.int .i64 n, .int .i64 x]) ∧ Below w.heap.size w w' := by
  have h2 := int_any s w E hs
  rw [h] at h2
  exact h2
/-- What a function that reads an entry gives. -/
def entP (o : Option Ent) : Ent := o.getD ⟨0, [], 0⟩
def EPost (w : World) (o : Option Ent) (e : Ending) (w' : World) : Prop := e = .returned (.tuple #[.agg #[.int .i64 (entP o).time, .string (bs (entP o).text), .int .u64 ((entP o).sum : Int)], .bool o.isSome]) ∧ Below w.heap.size w w'
theorem epost_no {w w' : World} {o : Option Ent} {e : Ending} (h : o = none) (he : e = .returned (.tuple #[.agg #[.int .i64 0, .string (bs []), .int .u64 0], .bool false])) (hb : Below w.heap.size w w') : EPost w o e w' := by
  subst h
  exact ⟨he, hb⟩
theorem epost_at {w w' : World} {o : Option Ent} {x : Ent} {e : Ending} (h : o = some x) (he : e = .returned (.tuple #[.agg #[.int .i64 x.time, .string (bs x.text), .int .u64 (x.sum : Int)], .bool true])) (hb : Below w.heap.size w w') : EPost w o e w' := by
  subst h
  exact ⟨he, hb⟩
theorem hexV_snoc {b : List UInt8} {k v : Nat} (hk : k < b.length) (h : hexV 0 (b.take k) = some v) : hexV 0 (b.take (k + 1)) = (hxd b[k]).map fun d => v * 16 + d := by
  rw [List.take_succ_eq_append_getElem hk, hexV_append, h, Option.bind_some, hexV]
  cases hxd b[k] <;> rfl
theorem hexV_stop {b : List UInt8} {k v : Nat} (hk : k < b.length) (h : hexV 0 (b.take k) = some v) (hd : hxd b[k] = none) : hexV 0 b = none := by
  have e : hexV 0 (b.take (k + 1)) = none := by rw [hexV_snoc hk h, hd]; rfl
  rw [← List.take_append_drop (k + 1) b, hexV_append, e]
  rfl
theorem hxd_cases (c : UInt8) : (∃ d : Nat, d < 16 ∧ hxd c = some d ∧ 48 ≤ c.toNat ∧ c.toNat ≤ 57 ∧ c.toNat = d + 48) ∨ (∃ d : Nat, d < 16 ∧ hxd c = some d ∧ 97 ≤ c.toNat ∧ c.toNat ≤ 102 ∧ c.toNat = d + 87) ∨ (hxd c = none ∧ (c.toNat < 48 ∨ 57 < c.toNat) ∧ (c.toNat < 97 ∨ 102 < c.toNat)) := by
  unfold hxd
  by_cases h1 : 48 ≤ c.toNat ∧ c.toNat ≤ 57
  · rw [if_pos h1]; exact Or.inl ⟨_, by omega, rfl, h1.1, h1.2, by omega⟩
  · rw [if_neg h1]
    by_cases h2 : 97 ≤ c.toNat ∧ c.toNat ≤ 102
    · rw [if_pos h2]; exact Or.inr (Or.inl ⟨_, by omega, rfl, h2.1, h2.2, by omega⟩)
    · rw [if_neg h2]; exact Or.inr (Or.inr ⟨rfl, by omega, by omega⟩)
theorem pow16 (k : Nat) (h : k < 16) : 16 ^ k ≤ 1152921504606846976 := by
  have : 16 ^ k ≤ 16 ^ 15 := Nat.pow_le_pow_right (by omega) (by omega)
  simpa using this
end Go.Proofs.YtnckainiphlndaaDoor
