/- Small lemmas on strings as lists of bytes, on bits and on worlds, for the walks of this seat. More small lemmas for the walks of this seat. Slices of bytes that the call itself made: appended to, converted, read. Lemmas over any program. One byte appended inside a region that draws its order. A block that is known whole: what it holds, and through what it stays. Over any program. -/
import Derived.WalkKit
import Derived.WalkLawsBesides
import Derived.Laws.BitsAllLaws
import Derived.Laws.BytesArg
import Derived.Lib.Hide
import Derived.Laws.StructEq
import Derived.Lib.AppendStr
import Derived.Deep.AppendLies
import Derived.Lib.Builder
import Derived.Deep.Draws
import Derived.Below
namespace Go.Proofs.YtlblfblkallnhaaGreatDoor
set_option linter.unusedVariables false
set_option linter.unusedSimpArgs false
open Go.RowKit

/-! ### Strings as lists of bytes -/
def bs (l : List UInt8) : ByteArray := ⟨l.toArray⟩
theorem bs_of (s : ByteArray) : ∃ l, s = bs l := ⟨s.data.toList, rfl⟩
theorem bs_data (l : List UInt8) : (bs l).data.toList = l := rfl
theorem bs_size (l : List UInt8) : (bs l).size = l.length := by simp [bs, ByteArray.size]
theorem bs_toList (l : List UInt8) : (bs l).toList = l := by unfold bs; exact ByteArray.toList_mk l
theorem bs_append (a b : List UInt8) : bs a ++ bs b = bs (a ++ b) := ByteArray.mk_append_mk a b
theorem bs_get (l : List UInt8) (k : Nat) (h : k < (bs l).size) : (bs l)[k] = l[k]'(by simpa [bs_size] using h) := rfl
theorem bs_extract (l : List UInt8) (a b : Nat) : (bs l).extract a b = bs ((l.take b).drop a) := by
  apply ByteArray.ext
  apply Array.toList_inj.1
  rw [ByteArray.data_extract]
  simp [bs, List.extract_eq_take_drop, List.drop_take]
theorem bs_inj {a b : List UInt8} : bs a = bs b ↔ a = b := ⟨fun h => by rw [← bs_data a, ← bs_data b, h], fun h => by rw [h]⟩
theorem bs_nil : ({ data := #[] } : ByteArray) = bs [] := rfl
theorem strOfNums_bs (l : List UInt8) (f : UInt8 → Int) (hf : ∀ c, f c = (c.toNat : Int)) : strOfNums (l.map f) = bs l := by
  unfold strOfNums bs
  congr 1
  congr 1
  rw [List.map_map]
  conv => rhs; rw [← List.map_id l]
  apply List.map_congr_left
  intro c _
  simp [hf]
theorem take_snoc (l : List UInt8) (k : Nat) (h : k < l.length) : l.take (k + 1) = l.take k ++ [l[k]] := List.take_succ_eq_append_getElem h
theorem take_all {α : Type} (l : List α) (k : Nat) (h : ¬ k < l.length) : l.take k = l := List.take_of_length_le (by omega)

/-- The conversion of a row of bytes in a block that was just made. -/
theorem conv_alloc {P : Program} (w : World) (src e dst t : TypeId) (hs : P.underlying src = some (.slice e)) (he : P.underlying e = some (.int .u8)) (hd : P.underlying dst = some .string) (xs : List Int) (n c : Nat) (hn : xs.length = n) :
    (convert src dst (.slice (some ⟨w.heap.size, 0, none⟩) n c)).run P (w.alloc (.cells (xs.map (Value.int .u8)).toArray t)) = .ok (.string (strOfNums xs)) (w.alloc (.cells (xs.map (Value.int .u8)).toArray t)) := by
  refine run_convert_bytes_arg (P := P) _ src e hs he w.heap.size 0 n c xs hn (fun i hi => ?_) dst hd
  rw [Nat.zero_add, World.cell?_alloc_at _ _ _ _ rfl]
  have hi' : i < xs.length := by omega
  simp [hi']

/-- A slice made into a pointer to an array. -/
theorem run_arrayAt {P : Program} (w : World) (arr e : TypeId) (n : Nat) (h : P.underlying arr = some (.array n e)) (a : Option Addr) (len cap : Nat) (hl : ¬ len < n) :
    (Instr.arrayAt arr (.slice a len cap)).run P w = .ok (.pointer a) w := by
  simp [Instr.arrayAt, run_underlying h, hl]
/-- What '[]byte(s)' lays holds the bytes of s. -/
theorem bytesRow_get (l : List UInt8) (cap i : Nat) (h : i < l.length) : (bytesRow (bs l) cap)[i]? = some (.int .u8 (l[i].toNat : Int)) := by
  unfold bytesRow bs
  rw [Array.getElem?_append_left (by simpa using h)]
  simp [h]

/-- Two arrays of four integers compared. -/
theorem run_eq_arr4 {P : Program} (w : World) (d : Nat) {ta te : TypeId} {k : IntKind} {i : TypeInfo} (ht : P.underlying ta = some (.array 4 te)) (he : P.underlying te = some (.int k)) (hi : P.info? te = some i) (hs : i.size = 1) (a b c e a' b' c' e' : Int) :
    (Op.equalIn (d + 2) ta (.agg #[.int k a, .int k b, .int k c, .int k e]) (.agg #[.int k a', .int k b', .int k c', .int k e'])).run P w = .ok (a == a' && (b == b' && (c == c' && e == e'))) w := by
  have hag : (isAgg te).run P w = .ok false w := by unfold isAgg; rw [Sem.run_bind, run_underlying he w]; rfl
  simp only [Op.equalIn, Sem.run_bind, run_underlying ht, Result.andThen_ok, sizeOf, typeInfo, run_program, hi, Sem.run_pure, hs]
  simp [Std.Legacy.Range.forIn_eq_forIn_range', List.range', part, Sem.run_bind, hag, sizeOf, typeInfo, hi, hs, run_underlying he]
  by_cases h1 : a = a' <;> by_cases h2 : b = b' <;> by_cases h3 : c = c' <;> by_cases h4 : e = e' <;> simp [h1, h2, h3, h4]

/-! ### Rows that are filled from the front or from the end -/
def fillA (xs : List Value) (N k : Nat) (z : Value) : Array Value := (xs.take k ++ List.replicate (N - k) z).toArray
def fillB (xs : List Value) (k : Nat) (z : Value) : Array Value := (List.replicate k z ++ xs.drop k).toArray
theorem fillA_size (xs : List Value) (N k : Nat) (z : Value) (hx : xs.length = N) (hk : k ≤ N) : (fillA xs N k z).size = N := by
  simp [fillA]; omega
theorem fillB_size (xs : List Value) (N k : Nat) (z : Value) (hx : xs.length = N) (hk : k ≤ N) : (fillB xs k z).size = N := by
  simp [fillB]; omega
theorem fillA_set (xs : List Value) (N k : Nat) (z v : Value) (hx : xs.length = N) (hk : k < N) (hv : xs[k]? = some v) : (fillA xs N k z).setIfInBounds k v = fillA xs N (k + 1) z := by
  unfold fillA
  apply Array.toList_inj.1
  rw [List.setIfInBounds_toArray, List.set_append_right _ _ (by rw [List.length_take]; omega)]
  have e : k - (xs.take k).length = 0 := by simp; omega
  have e2 : N - k = (N - (k + 1)) + 1 := by omega
  rw [e, e2, List.replicate_succ, List.set_cons_zero, List.take_add_one, hv]
  simp
theorem fillB_set (xs : List Value) (k : Nat) (z v : Value) (hv : xs[k]? = some v) : (fillB xs (k + 1) z).setIfInBounds k v = fillB xs k z := by
  unfold fillB
  apply Array.toList_inj.1
  obtain ⟨hk, hv'⟩ := List.getElem?_eq_some_iff.1 hv
  rw [List.setIfInBounds_toArray, List.set_append_left _ _ (by simp), List.replicate_succ', List.set_append_right _ _ (by simp), List.drop_eq_getElem_cons hk, hv']
  simp
theorem fillA_all (xs : List Value) (N : Nat) (z : Value) (hx : xs.length = N) : fillA xs N N z = xs.toArray := by
  subst hx
  simp [fillA]
theorem fillB_all (xs : List Value) (z : Value) : fillB xs 0 z = xs.toArray := by simp [fillB]
/-- The bytes of a list as cells. -/
def cellsU8 (l : List UInt8) : List Value := l.map fun c => .int .u8 (c.toNat : Int)
theorem cellsU8_length (l : List UInt8) : (cellsU8 l).length = l.length := by simp [cellsU8]
theorem cellsU8_get (l : List UInt8) (i : Nat) : (cellsU8 l)[i]? = l[i]?.map fun c => .int .u8 (c.toNat : Int) := by simp [cellsU8]
/-- The conversion of a row of bytes in a block that was just made. -/
theorem conv_row {P : Program} (w : World) (src e dst t : TypeId) (hs : P.underlying src = some (.slice e)) (he : P.underlying e = some (.int .u8)) (hd : P.underlying dst = some .string) (l : List UInt8) (n c : Nat) (hn : l.length = n) :
    (convert src dst (.slice (some ⟨w.heap.size, 0, none⟩) n c)).run P (w.alloc (.cells (cellsU8 l).toArray t)) = .ok (.string (bs l)) (w.alloc (.cells (cellsU8 l).toArray t)) := by
  have h := conv_alloc w src e dst t hs he hd (l.map fun c => (c.toNat : Int)) n c (by simpa using hn)
  rw [strOfNums_bs l _ (fun _ => rfl)] at h
  have e : (List.map (Value.int .u8) (List.map (fun c => (c.toNat : Int)) l)) = cellsU8 l := by simp [cellsU8]
  rw [e] at h
  exact h

/-! ### Bits -/
theorem and1_u32 (S : Nat) (h : S < 4294967296) : bits .and .u32 (S : Int) 1 = ((S % 2 : Nat) : Int) := by
  rw [← nat_mask1]; exact u32_and_nat S 1 h (by omega)
theorem not_u32 (R : Nat) (h : R < 4294967296) : bits .xor .u32 IntKind.u32.max (R : Int) = ((R ^^^ 4294967295 : Nat) : Int) := by
  rw [Nat.xor_comm]
  exact u32_xor_nat 4294967295 R (by decide) h

theorem Below.drewN {B : Nat} {w w' : World} (h : Below B w w') (n : Nat) : Below B w (w'.drewN n) := ⟨h.os, h.tape, h.output, h.size, h.block⟩
theorem u8_of (n : Nat) : ((UInt8.ofNat n).toNat : Int) = (n : Int) % 256 := by simp

/-! ### Endings -/
theorem ret_v {a b : Value} (h : a = b) : Ending.returned a = .returned b := by rw [h]
theorem ret_int {k : IntKind} {a b : Int} (h : a = b) : Ending.returned (.int k a) = .returned (.int k b) := by rw [h]
theorem ret_str {a b : List UInt8} (h : a = b) : Ending.returned (.string (bs a)) = .returned (.string (bs b)) := by rw [h]
end Go.Proofs.YtlblfblkallnhaaGreatDoor
namespace Go.Proofs.YtlblfblkallnhaaGreatDoor
set_option linter.unusedVariables false
set_option linter.unusedSimpArgs false
open Go.RowKit
theorem fillA_get (xs : List Value) (N k : Nat) (z : Value) (hx : xs.length = N) (hk : k < N) : (fillA xs N k z)[k]? = some z := by
  unfold fillA
  rw [List.getElem?_toArray, List.getElem?_append_right (by rw [List.length_take]; omega), List.getElem?_replicate, if_pos (by rw [List.length_take]; omega)]
theorem fillB_get (xs : List Value) (k : Nat) (z : Value) : (fillB xs (k + 1) z)[k]? = some z := by
  unfold fillB
  rw [List.getElem?_toArray, List.getElem?_append_left (by simp), List.getElem?_replicate, if_pos (by omega)]
theorem fillB_none (xs : List Value) (N : Nat) (z : Value) (hx : xs.length = N) : fillB xs N z = (List.replicate N z).toArray := by
  subst hx
  simp [fillB]
theorem pow256 (k : Nat) : 256 ^ k = 2 ^ (8 * k) := by rw [Nat.pow_mul]
end Go.Proofs.YtlblfblkallnhaaGreatDoor
namespace Go.Proofs.YtlblfblkallnhaaGreatDoor
set_option linter.unusedVariables false
set_option linter.unusedSimpArgs false
open Go.RowKit

/-- The value v is a slice of bytes (element type e) that owns the bytes l. -/
def OwnB (w : World) (base : Nat) (e : TypeId) (v : Value) (l : List UInt8) : Prop := w.ownsRow base e 1 v l.length (cellsU8 l)
/-- What a step on an owned row does to the world: whatever was below stays. -/
def Keeps (base : Nat) (w w' : World) : Prop := ∀ (B : Nat) (w0 : World), B ≤ base → Below B w0 w → Below B w0 w'

theorem cellsU8_append (a b : List UInt8) : cellsU8 (a ++ b) = cellsU8 a ++ cellsU8 b := by simp [cellsU8]
theorem cellsU8_one (l : List UInt8) : ∀ u ∈ cellsU8 l, u.oneCell' = true := by
  intro u hu
  simp only [cellsU8, List.mem_map] at hu
  obtain ⟨b, _, rfl⟩ := hu
  rfl
theorem strCells_bs (l : List UInt8) : Lib.strCells (bs l) = cellsU8 l := rfl

section
variable {w : World} {base : Nat} {e : TypeId} {v : Value} {l : List UInt8}
theorem OwnB.nil (w : World) (base : Nat) (e : TypeId) : OwnB w base e (.slice none 0 0) [] := World.ownsRow_nil w base e 1
theorem OwnB.alloc (h : OwnB w base e v l) (o : Obj) : OwnB (w.alloc o) base e v l := World.ownsRow.alloc h o
theorem OwnB.drew (h : OwnB w base e v l) : OwnB w.drew base e v l := h
theorem OwnB.lt (h : OwnB w base e v l) : ∀ k, v.ownBlock = some k → base ≤ k ∧ k < w.heap.size := World.ownsRow.lt h
theorem OwnB.form (h : OwnB w base e v l) : (v = .slice none 0 0 ∧ l = []) ∨ ∃ g cap, v = .slice (some ⟨g, 0, none⟩) l.length cap ∧ base ≤ g ∧ l.length ≤ cap ∧ cap ≤ maxLen ∧ (∀ j c, l[j]? = some c → w.cell? ⟨g, j, none⟩ = some (.int .u8 (c.toNat : Int))) ∧ (∀ j, w.frozen? ⟨g, j, none⟩ = false) ∧ g < w.heap.size := by
  have h' : w.ownsRow base e 1 v l.length (cellsU8 l) := h
  rcases h'.2 with ⟨rfl, hn⟩ | ⟨g, cap, cur, rfl, hb, hg, hl, hm, _⟩
  · exact .inl ⟨rfl, List.eq_nil_of_length_eq_zero hn⟩
  · refine .inr ⟨g, cap, rfl, hb, hl, hm, fun j c hj => ?_, fun j => World.ownsRow.frozenAt h' j, (Array.getElem?_eq_some_iff.1 hg).1⟩
    have hjl : j < l.length := (List.getElem?_eq_some_iff.1 hj).1
    rw [World.ownsRow.cellAt h' j (by omega), cellsU8_get, hj]
    rfl
theorem OwnB.row (h : OwnB w base e v l) (hne : l ≠ []) : ∃ g cap, v = .slice (some ⟨g, 0, none⟩) l.length cap ∧ ∀ j c, l[j]? = some c → w.cell? ⟨g, j, none⟩ = some (.int .u8 (c.toNat : Int)) := by
  obtain ⟨g, cap, hv, _, _, _, hc, _⟩ := h.form.resolve_left (fun h => hne h.2)
  exact ⟨g, cap, hv, hc⟩
theorem OwnB.len (h : OwnB w base e v l) : ∃ a cap, v = .slice a l.length cap := by
  rcases h.form with ⟨rfl, rfl⟩ | ⟨g, cap, rfl, _⟩
  · exact ⟨none, 0, rfl⟩
  · exact ⟨_, _, rfl⟩
end

theorem keeps_of {base : Nat} {w w' : World} {row : Option Nat} (hbase : base ≤ w.heap.size) (hg : w.grownBy w' row) (hr : ∀ k, row = some k → base ≤ k) : Keeps base w w' :=
  fun _ _ hB hb => hb.grown hg (Nat.le_trans hB hbase) fun k hk => Nat.le_trans hB (hr k hk)

section
variable {P : Program} (w : World)

/-- The conversion of an owned slice of bytes to a string. -/
theorem conv_own {base : Nat} {src e dst : TypeId} {v : Value} {l : List UInt8} (hs : P.underlying src = some (.slice e)) (he : P.underlying e = some (.int .u8)) (hd : P.underlying dst = some .string)
    (h : OwnB w base e v l) : (convert src dst v).run P w = .ok (.string (bs l)) w := by
  rcases h.form with ⟨rfl, rfl⟩ | ⟨g, cap, rfl, _, _, _, hc, _⟩
  · exact run_convert_bytes_nil w src e hs he 0 0 dst hd
  · have h := run_convert_bytes_arg (P := P) w src e hs he g 0 l.length cap (l.map fun c => (c.toNat : Int)) (by simp) (fun i hi => by
      rw [Nat.zero_add, hc i l[i] (List.getElem?_eq_getElem hi)]
      simp [hi]) dst hd
    rw [strOfNums_bs l _ (fun _ => rfl)] at h
    exact h

/-- One byte is appended. -/
theorem wpList_append_u8 {ops : Array Oper} {rest : List Oper} {o : Oper} {a : Act} {Q : Exit → Act → World → Prop} (hgd : o.guard = none) (s x : Operand) (t : TypeId)
    (ho : o.op = .call { callee := .builtin .append, args := #[s, x], argTypes := #[t, t] })
    (base : Nat) (e : TypeId) (i : TypeInfo) (ht : P.underlying t = some (.slice e)) (hi : P.info? e = some i) (hz : i.zero = some (.int .u8 0)) (hsize : i.size = 1) (hby : i.bytes = 1)
    (v : Value) (l : List UInt8) (hs : a.eval s = v) (hown : OwnB w base e v l) (c : UInt8) (n : Int) (hn : n = (c.toNat : Int)) (tt : TypeId)
    (hx : a.eval x = .slice (some ⟨w.heap.size, 0, none⟩) 1 1) (hlen : l.length + 1 ≤ 140737488355328) (hbase : base ≤ w.heap.size)
    (h : ∀ v' w', OwnB w' base e v' (l ++ [c]) → Keeps base w w' → wpList P ops Q rest (a.put o.dst v') w') : wpList P ops Q (o :: rest) a (w.alloc (.cells #[.int .u8 n] tt)) := by
  subst hn
  have hown' := hown.alloc (.cells #[.int .u8 (c.toNat : Int)] tt)
  refine wpList_append_own _ hgd s x t ho base e i (.int .u8 0) 1 1 ht hi hz hsize hby rfl (by omega) v l.length (cellsU8 l) hs hown' ⟨w.heap.size, 0, none⟩ 1 1 (cellsU8 [c]) hx rfl ?_ (cellsU8_one _)
    (by unfold maxLen; omega) (by omega) (by simp; omega) ?_
  · intro j u hj
    match j, hj with
    | 0, hj =>
      simp [cellsU8] at hj
      subst hj
      simp [Addr.add]
    | j + 1, hj => simp [cellsU8] at hj
  · intro v' w' h1 h2 _
    refine h v' w' ?_ ?_
    · unfold OwnB
      rw [cellsU8_append, List.length_append]
      exact h1
    · intro B w0 hB hb
      exact (hb.alloc (Nat.le_trans hB hbase) _).grown h2 (by simp; omega) fun k hk => Nat.le_trans hB (hown.lt k hk).1

/-- The bytes of a string are appended. -/
theorem wpList_append_str {ops : Array Oper} {rest : List Oper} {o : Oper} {a : Act} {Q : Exit → Act → World → Prop} (hgd : o.guard = none) (s x : Operand) (t u : TypeId)
    (ho : o.op = .call { callee := .builtin .append, args := #[s, x], argTypes := #[t, u] })
    (base : Nat) (e : TypeId) (i : TypeInfo) (ht : P.underlying t = some (.slice e)) (hu : P.underlying u = some .string) (hi : P.info? e = some i) (hz : i.zero = some (.int .u8 0)) (hsize : i.size = 1) (hby : i.bytes = 1)
    (v : Value) (l : List UInt8) (hs : a.eval s = v) (hown : OwnB w base e v l) (m : List UInt8)
    (hx : a.eval x = .string (bs m)) (hlen : l.length + m.length ≤ 140737488355328) (hbase : base ≤ w.heap.size)
    (h : ∀ v' w', OwnB w' base e v' (l ++ m) → Keeps base w w' → wpList P ops Q rest (a.put o.dst v') w') : wpList P ops Q (o :: rest) a w := by
  refine Lib.wpList_append_own_string _ hgd s x t u ho base e i ht hu hi hz hsize hby v l.length (cellsU8 l) hs hown (bs m) hx (by rw [bs_size]; unfold maxLen; omega) (by rw [bs_size]; omega) hbase ?_
  intro v' w' h1 h2 _
  refine h v' w' ?_ (keeps_of hbase h2 fun k hk => (hown.lt k hk).1)
  unfold OwnB
  rw [cellsU8_append, List.length_append]
  rw [bs_size] at h1
  exact h1
end

/-- Two calls, one behind the other. -/
theorem bthen {w w1 w2 : World} (h : Below w.heap.size w w1) (h2 : Below w1.heap.size w1 w2) : Below w.heap.size w w2 := h.trans (h2.mono h.size)

/-- What '[]byte(s)' gives. -/
theorem bytes_of {P : Program} (w : World) {src dst e : TypeId} (l : List UInt8) (hs : P.underlying src = some .string) (hd : P.underlying dst = some (.slice e)) (he : P.underlying e = some (.int .u8)) :
    ∃ cap w', (convert src dst (.string (bs l))).run P w = .ok (.slice (some ⟨w.heap.size, 0, none⟩) l.length cap) w' ∧ l.length ≤ cap ∧ Below w.heap.size w w' ∧ w'.heap.size = w.heap.size + 1 ∧
      (∀ j c, l[j]? = some c → w'.cell? ⟨w.heap.size, j, none⟩ = some (.int .u8 (c.toNat : Int))) ∧ (∀ j, j < l.length → w'.frozen? ⟨w.heap.size, j, none⟩ = false) := by
  have h := run_bytes_of_string (P := P) w src dst e (bs l) hs hd he
  have hge := grownCap_ge w (bs l).size 0 e
  rw [bs_size] at h hge
  have hsz : (bytesRow (bs l) (grownCap w l.length 0 e)).size = grownCap w l.length 0 e := by
    unfold bytesRow bs
    simp [ByteArray.size]
    omega
  refine ⟨_, _, h, hge, (Below.refl _ _).drew.alloc (Nat.le_refl _) _, by simp, ?_, ?_⟩
  · intro j c hj
    obtain ⟨hjl, rfl⟩ := List.getElem?_eq_some_iff.1 hj
    have := World.cell?_alloc_mark w.drew (bytesRow (bs l) (grownCap w l.length 0 e)) e ((bytesRow (bs l) (grownCap w l.length 0 e)).size, (bytesRow (bs l) (grownCap w l.length 0 e)).size + 1) j
    exact this.trans (bytesRow_get l _ j hjl)
  · intro j hj
    have := World.frozen?_alloc_mark w.drew (bytesRow (bs l) (grownCap w l.length 0 e)) e (bytesRow (bs l) (grownCap w l.length 0 e)).size ((bytesRow (bs l) (grownCap w l.length 0 e)).size + 1) j
    refine this.trans ?_
    rw [hsz]
    simp
    omega
/-- A row of bytes converted back, whatever lies behind it. -/
theorem conv_cells {P : Program} (w : World) {src e dst : TypeId} (hs : P.underlying src = some (.slice e)) (he : P.underlying e = some (.int .u8)) (hd : P.underlying dst = some .string) (g n cap : Nat) (l : List UInt8) (hn : l.length = n)
    (hc : ∀ j c, l[j]? = some c → w.cell? ⟨g, j, none⟩ = some (.int .u8 (c.toNat : Int))) : (convert src dst (.slice (some ⟨g, 0, none⟩) n cap)).run P w = .ok (.string (bs l)) w := by
  subst hn
  have h := run_convert_bytes_arg (P := P) w src e hs he g 0 l.length cap (l.map fun c => (c.toNat : Int)) (by simp) (fun i hi => by
    rw [Nat.zero_add, hc i l[i] (List.getElem?_eq_getElem hi)]
    simp [hi]) dst hd
  rw [strOfNums_bs l _ (fun _ => rfl)] at h
  exact h
end Go.Proofs.YtlblfblkallnhaaGreatDoor
namespace Go.Proofs.YtlblfblkallnhaaGreatDoor
set_option linter.unusedVariables false
set_option linter.unusedSimpArgs false
open Go.RowKit
theorem step_append_u8 {P : Program} {w : World} {ops : Array Oper} {o : Oper} {a : Act} {K : Act → World → Prop} {Q : Exit → Act → World → Prop} {E : Prop} (hgd : o.guard = none) (s x : Operand) (t : TypeId)
    (ho : o.op = .call { callee := .builtin .append, args := #[s, x], argTypes := #[t, t] })
    (base : Nat) (e : TypeId) (i : TypeInfo) (ht : P.underlying t = some (.slice e)) (hi : P.info? e = some i) (hz : i.zero = some (.int .u8 0)) (hsize : i.size = 1) (hby : i.bytes = 1)
    (v : Value) (l : List UInt8) (hs : a.eval s = v) (hown : OwnB w base e v l) (c : UInt8) (g : Nat)
    (hx : a.eval x = .slice (some ⟨g, 0, none⟩) 1 1) (hcell : w.cell? ⟨g, 0, none⟩ = some (.int .u8 (c.toNat : Int))) (hlen : l.length + 1 ≤ 140737488355328) (hbase : base ≤ w.heap.size)
    (h : ∀ v' w', OwnB w' base e v' (l ++ [c]) → Keeps base w w' → K (a.put o.dst v') w') :
    if Region.wanted o (yielded ops a.tmps) = true then Oper.wp P o a w K Q else E := by
  have hw : Region.wanted o (yielded ops a.tmps) = true := by simp [Region.wanted, hgd]
  rw [if_pos hw]
  refine wp_append_own w s x t ho base e i (.int .u8 0) 1 1 ht hi hz hsize hby rfl (by omega) v l.length (cellsU8 l) hs hown ⟨g, 0, none⟩ 1 1 (cellsU8 [c]) hx rfl ?_ (cellsU8_one _)
    (by unfold maxLen; omega) (by omega) hbase ?_
  · intro j u hj
    match j, hj with
    | 0, hj =>
      simp [cellsU8] at hj
      subst hj
      exact hcell
    | j + 1, hj => simp [cellsU8] at hj
  · intro v' w' h1 h2 _
    refine h v' w' ?_ (keeps_of hbase h2 fun k hk => (hown.lt k hk).1)
    unfold OwnB
    rw [cellsU8_append, List.length_append]
    exact h1
end Go.Proofs.YtlblfblkallnhaaGreatDoor
namespace Go.Proofs.YtlblfblkallnhaaGreatDoor
set_option linter.unusedVariables false
set_option linter.unusedSimpArgs false
open Go.RowKit
/-! ### A block that is known whole -/
def Blk (w : World) (g : Nat) (t : TypeId) (cs : Array Value) : Prop := w.heap[g]? = some (.cells cs t (0, 0))
section
variable {w w' : World} {g : Nat} {t : TypeId} {cs : Array Value}
theorem Blk.lt (h : Blk w g t cs) : g < w.heap.size := (Array.getElem?_eq_some_iff.1 h).1
theorem Blk.cell (h : Blk w g t cs) (i : Nat) : w.cell? ⟨g, i, none⟩ = cs[i]? := Lib.cell_of_heap h i
theorem Blk.free (h : Blk w g t cs) (i : Nat) : w.frozen? ⟨g, i, none⟩ = false := Lib.frozen_of_heap h i
theorem Blk.new (w : World) (t : TypeId) (cs : Array Value) (g : Nat) (hg : g = w.heap.size) : Blk (w.alloc (.cells cs t)) g t cs := by subst hg; exact heap_alloc_new w _
theorem Blk.drew (h : Blk w g t cs) : Blk w.drew g t cs := h
theorem Blk.drewN (h : Blk w g t cs) (n : Nat) : Blk (w.drewN n) g t cs := h
theorem Blk.alloc (h : Blk w g t cs) (o : Obj) : Blk (w.alloc o) g t cs := (Below.heap_alloc w o g h.lt).trans h
theorem Blk.far (h : Blk w g t cs) {p : Addr} (hp : g ≠ p.block) (u : Value) : Blk (w.setCell p u) g t cs := (Below.heap_setCell w p u g hp).trans h
theorem Blk.set (h : Blk w g t cs) (i : Nat) (u : Value) : Blk (w.setCell ⟨g, i, none⟩ u) g t (cs.setIfInBounds i u) := by
  unfold Blk at h ⊢
  simp [World.setCell, Array.getElem?_modify, h]
theorem Blk.below {B : Nat} (h : Blk w g t cs) (hb : Below B w w') (hg : g < B) : Blk w' g t cs := (hb.block g hg).trans h
theorem Blk.now (h : Blk w g t cs) (hb : Below w.heap.size w w') : Blk w' g t cs := h.below hb h.lt
end
/-- Two calls, one behind the other. -/
theorem bel_then {w w1 w2 : World} {B : Nat} (h : Below B w w1) (hB : B ≤ w1.heap.size) (h2 : Below w1.heap.size w1 w2) : Below B w w2 := h.trans (h2.mono hB)
end Go.Proofs.YtlblfblkallnhaaGreatDoor
