/- Small lemmas on strings as lists of bytes, on bits and on worlds, for the walks of this seat. -/
import Derived.WalkKit
import Derived.WalkLawsBesides
import Derived.Laws.BitsAllLaws
import Derived.Laws.BytesArg
import Derived.Lib.Hide
import Derived.Laws.StructEq
namespace Go.Proofs.YtfmfadafpbnjoaaDoor
set_option linter.unusedVariables false
set_option linter.unusedSimpArgs false
open Go.RowKit

/-! ### Strings as lists of bytes -/
def bs (l : List UInt8) : ByteArray := ⟨l.toArray⟩
theorem bs_of (s : ByteArray) : ∃ l, s = bs l := ⟨s.data.toList, rfl⟩
theorem bs_data (l : List UInt8) : (bs l).data.toList = l := rfl
theorem bs_size (l : List UInt8) : (bs l).size = l.length := by simp [bs, ByteArray.size]
theorem bs_toList (l : List UInt8) : (bs l).toList = l := by unfold bs; exact ByteArray.toList_mk l
theorem bs_append (a b : List UInt8) : bs a ++ bs b = bs (a ++ b) := ByteArray.mk_append_mk a b
theorem bs_get (l : List UInt8) (k : Nat) (h : k < (bs l).size) : (bs l)[k] = l[k]'(by simpa [bs_size] using h) := rfl
theorem bs_extract (l : List UInt8) (a b : Nat) : (bs l).extract a b = bs ((l.take b).drop a) := by
  apply ByteArray.ext
  apply Array.toList_inj.1
  rw [ByteArray.data_extract]
  simp [bs, List.extract_eq_take_drop, List.drop_take]
theorem bs_inj {a b : List UInt8} : bs a = bs b ↔ a = b := ⟨fun h => by rw [← bs_data a, ← bs_data b, h], fun h => by rw [h]⟩
theorem bs_nil : ({ data := #[] } : ByteArray) = bs [] := rfl
theorem strOfNums_bs (l : List UInt8) (f : UInt8 → Int) (hf : ∀ c, f c = (c.toNat : Int)) : strOfNums (l.map f) = bs l := by
  unfold strOfNums bs
  congr 1
  congr 1
  rw [List.map_map]
  conv => rhs; rw [← List.map_id l]
  apply List.map_congr_left
  intro c _
  simp [hf]
theorem take_snoc (l : List UInt8) (k : Nat) (h : k < l.length) : l.take (k + 1) = l.take k ++ [l[k]] := List.take_succ_eq_append_getElem h
theorem take_all {α : Type} (l : List α) (k : Nat) (h : ¬ k < l.length) : l.take k = l := List.take_of_length_le (by omega)

/-- The conversion of a row of bytes in a block that was just made. -/
theorem conv_alloc {P : Program} (w : World) (src e dst t : TypeId) (hs : P.underlying src = some (.slice e)) (he : P.underlying e = some (.int .u8)) (hd : P.underlying dst = some .string) (xs : List Int) (n c : Nat) (hn : xs.length = n) :
    (convert src dst (.slice (some ⟨w.heap.size, 0, none⟩) n c)).run P (w.alloc (.cells (xs.map (Value.int .u8)).toArray t)) = .ok (.string (strOfNums xs)) (w.alloc (.cells (xs.map (Value.int .u8)).toArray t)) := by
  refine run_convert_bytes_arg (P := P) _ src e hs he w.heap.size 0 n c xs hn (fun i hi => ?_) dst hd
  rw [Nat.zero_add, World.cell?_alloc_at _ _ _ _ rfl]
  have hi' : i < xs.length := by omega
  simp [hi']

/-- A slice made into a pointer to an array. -/
theorem run_arrayAt {P : Program} (w : World) (arr e : TypeId) (n : Nat) (h : P.underlying arr = some (.array n e)) (a : Option Addr) (len cap : Nat) (hl : ¬ len < n) :
    (Instr.arrayAt arr (.slice a len cap)).run P w = .ok (.pointer a) w := by
  simp [Instr.arrayAt, run_underlying h, hl]
/-- What '[]byte(s)' lays holds the bytes of s. -/
theorem bytesRow_get (l : List UInt8) (cap i : Nat) (h : i < l.length) : (bytesRow (bs l) cap)[i]? = some (.int .u8 (l[i].toNat : Int)) := by
  unfold bytesRow bs
  rw [Array.getElem?_append_left (by simpa using h)]
  simp [h]

/-- Two arrays of four integers compared. -/
theorem run_eq_arr4 {P : Program} (w : World) (d : Nat) {ta te : TypeId} {k : IntKind} {i : TypeInfo} (ht : P.underlying ta = some (.array 4 te)) (he : P.underlying te = some (.int k)) (hi : P.info? te = some i) (hs : i.size = 1) (a b c e a' b' c' e' : Int) :
    (Op.equalIn (d + 2) ta (.agg #[.int k a, .int k b, .int k c, .int k e]) (.agg #[.int k a', .int k b', .int k c', .int k e'])).run P w = .ok (a == a' && (b == b' && (c == c' && e == e'))) w := by
  have hag : (isAgg te).run P w = .ok false w := by unfold isAgg; rw [Sem.run_bind, run_underlying he w]; rfl
  simp only [Op.equalIn, Sem.run_bind, run_underlying ht, Result.andThen_ok, sizeOf, typeInfo, run_program, hi, Sem.run_pure, hs]
  simp [Std.Legacy.Range.forIn_eq_forIn_range', List.range', part, Sem.run_bind, hag, sizeOf, typeInfo, hi, hs, run_underlying he]
  by_cases h1 : a = a' <;> by_cases h2 : b = b' <;> by_cases h3 : c = c' <;> by_cases h4 : e = e' <;> simp [h1, h2, h3, h4]

/-! ### Rows that are filled from the front or from the end -/
def fillA (xs : List Value) (N k : Nat) (z : Value) : Array Value := (xs.take k ++ List.replicate (N - k) z).toArray
def fillB (xs : List Value) (k : Nat) (z : Value) : Array Value := (List.replicate k z ++ xs.drop k).toArray
theorem fillA_size (xs : List Value) (N k : Nat) (z : Value) (hx : xs.length = N) (hk : k ≤ N) : (fillA xs N k z).size = N := by
  simp [fillA]; omega
theorem fillB_size (xs : List Value) (N k : Nat) (z : Value) (hx : xs.length = N) (hk : k ≤ N) : (fillB xs k z).size = N := by
  simp [fillB]; omega
theorem fillA_set (xs : List Value) (N k : Nat) (z v : Value) (hx : xs.length = N) (hk : k < N) (hv : xs[k]? = some v) : (fillA xs N k z).setIfInBounds k v = fillA xs N (k + 1) z := by
  unfold fillA
  apply Array.toList_inj.1
  rw [List.setIfInBounds_toArray, List.set_append_right _ _ (by rw [List.length_take]; omega)]
  have e : k - (xs.take k).length = 0 := by simp; omega
  have e2 : N - k = (N - (k + 1)) + 1 := by omega
  rw [e, e2, List.replicate_succ, List.set_cons_zero, List.take_add_one, hv]
  simp
theorem fillB_set (xs : List Value) (k : Nat) (z v : Value) (hv : xs[k]? = some v) : (fillB xs (k + 1) z).setIfInBounds k v = fillB xs k z := by
  unfold fillB
  apply Array.toList_inj.1
  obtain ⟨hk, hv'⟩ := List.getElem?_eq_some_iff.1 hv
  rw [List.setIfInBounds_toArray, List.set_append_left _ _ (by simp), List.replicate_succ', List.set_append_right _ _ (by simp), List.drop_eq_getElem_cons hk, hv']
  simp
theorem fillA_all (xs : List Value) (N : Nat) (z : Value) (hx : xs.length = N) : fillA xs N N z = xs.toArray := by
  subst hx
  simp [fillA]
theorem fillB_all (xs : List Value) (z : Value) : fillB xs 0 z = xs.toArray := by simp [fillB]
/-- The bytes of a list as cells. -/
def cellsU8 (l : List UInt8) : List Value := l.map fun c => .int .u8 (c.toNat : Int)
theorem cellsU8_length (l : List UInt8) : (cellsU8 l).length = l.length := by simp [cellsU8]
theorem cellsU8_get (l : List UInt8) (i : Nat) : (cellsU8 l)[i]? = l[i]?.map fun c => .int .u8 (c.toNat : Int) := by simp [cellsU8]
/-- The conversion of a row of bytes in a block that was just made. -/
theorem conv_row {P : Program} (w : World) (src e dst t : TypeId) (hs : P.underlying src = some (.slice e)) (he : P.underlying e = some (.int .u8)) (hd : P.underlying dst = some .string) (l : List UInt8) (n c : Nat) (hn : l.length = n) :
    (convert src dst (.slice (some ⟨w.heap.size, 0, none⟩) n c)).run P (w.alloc (.cells (cellsU8 l).toArray t)) = .ok (.string (bs l)) (w.alloc (.cells (cellsU8 l).toArray t)) := by
  have h := conv_alloc w src e dst t hs he hd (l.map fun c => (c.toNat : Int)) n c (by simpa using hn)
  rw [strOfNums_bs l _ (fun _ => rfl)] at h
  have e : (List.map (Value.int .u8) (List.map (fun c => (c.toNat : Int)) l)) = cellsU8 l := by simp [cellsU8]
  rw [e] at h
  exact h

/-! ### Bits -/
theorem and1_u32 (S : Nat) (h : S < 4294967296) : bits .and .u32 (S : Int) 1 = ((S % 2 : Nat) : Int) := by
  rw [← nat_mask1]; exact u32_and_nat S 1 h (by omega)
theorem not_u32 (R : Nat) (h : R < 4294967296) : bits .xor .u32 IntKind.u32.max (R : Int) = ((R ^^^ 4294967295 : Nat) : Int) := by
  rw [Nat.xor_comm]
  exact u32_xor_nat 4294967295 R (by decide) h

theorem Below.drewN {B : Nat} {w w' : World} (h : Below B w w') (n : Nat) : Below B w (w'.drewN n) := ⟨h.os, h.tape, h.output, h.size, h.block⟩
theorem u8_of (n : Nat) : ((UInt8.ofNat n).toNat : Int) = (n : Int) % 256 := by simp

/-! ### Endings -/
theorem ret_v {a b : Value} (h : a = b) : Ending.returned a = .returned b := by rw [h]
theorem ret_int {k : IntKind} {a b : Int} (h : a = b) : Ending.returned (.int k a) = .returned (.int k b) := by rw [h]
theorem ret_str {a b : List UInt8} (h : a = b) : Ending.returned (.string (bs a)) = .returned (.string (bs b)) := by rw [h]
end Go.Proofs.YtfmfadafpbnjoaaDoor
