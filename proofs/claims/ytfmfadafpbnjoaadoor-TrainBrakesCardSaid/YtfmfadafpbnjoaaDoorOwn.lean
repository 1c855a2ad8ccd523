/- Slices of bytes that the call itself made: appended to, converted, read. Lemmas over any program. -/
import Derived.Test.YtfmfadafpbnjoaaDoorBaseB
import Derived.Lib.AppendStr
namespace Go.Proofs.YtfmfadafpbnjoaaDoor
set_option linter.unusedVariables false
set_option linter.unusedSimpArgs false
open Go.RowKit

/-- The value v is a slice of bytes (element type e) that owns the bytes l. -/
def OwnB (w : World) (base : Nat) (e : TypeId) (v : Value) (l : List UInt8) : Prop := w.ownsRow base e 1 v l.length (cellsU8 l)
/-- What a step on an owned row does to the world: whatever was below stays. -/
def Keeps (base : Nat) (w w' : World) : Prop := ∀ (B : Nat) (w0 : World), B ≤ base → Below B w0 w → Below B w0 w'

theorem cellsU8_append (a b : List UInt8) : cellsU8 (a ++ b) = cellsU8 a ++ cellsU8 b := by simp [cellsU8]
theorem cellsU8_one (l : List UInt8) : ∀ u ∈ cellsU8 l, u.oneCell' = true := by
  intro u hu
  simp only [cellsU8, List.mem_map] at hu
  obtain ⟨b, _, rfl⟩ := hu
  rfl
theorem strCells_bs (l : List UInt8) : Lib.strCells (bs l) = cellsU8 l := rfl

section
variable {w : World} {base : Nat} {e : TypeId} {v : Value} {l : List UInt8}
theorem OwnB.nil (w : World) (base : Nat) (e : TypeId) : OwnB w base e (.slice none 0 0) [] := World.ownsRow_nil w base e 1
theorem OwnB.alloc (h : OwnB w base e v l) (o : Obj) : OwnB (w.alloc o) base e v l := World.ownsRow.alloc h o
theorem OwnB.drew (h : OwnB w base e v l) : OwnB w.drew base e v l := h
theorem OwnB.lt (h : OwnB w base e v l) : ∀ k, v.ownBlock = some k → base ≤ k ∧ k < w.heap.size := World.ownsRow.lt h
theorem OwnB.form (h : OwnB w base e v l) : (v = .slice none 0 0 ∧ l = []) ∨ ∃ g cap, v = .slice (some ⟨g, 0, none⟩) l.length cap ∧ base ≤ g ∧ l.length ≤ cap ∧ cap ≤ maxLen ∧ (∀ j c, l[j]? = some c → w.cell? ⟨g, j, none⟩ = some (.int .u8 (c.toNat : Int))) ∧ (∀ j, w.frozen? ⟨g, j, none⟩ = false) ∧ g < w.heap.size := by
  have h' : w.ownsRow base e 1 v l.length (cellsU8 l) := h
  rcases h'.2 with ⟨rfl, hn⟩ | ⟨g, cap, cur, rfl, hb, hg, hl, hm, _⟩
  · exact .inl ⟨rfl, List.eq_nil_of_length_eq_zero hn⟩
  · refine .inr ⟨g, cap, rfl, hb, hl, hm, fun j c hj => ?_, fun j => World.ownsRow.frozenAt h' j, (Array.getElem?_eq_some_iff.1 hg).1⟩
    have hjl : j < l.length := (List.getElem?_eq_some_iff.1 hj).1
    rw [World.ownsRow.cellAt h' j (by omega), cellsU8_get, hj]
    rfl
theorem OwnB.row (h : OwnB w base e v l) (hne : l ≠ []) : ∃ g cap, v = .slice (some ⟨g, 0, none⟩) l.length cap ∧ ∀ j c, l[j]? = some c → w.cell? ⟨g, j, none⟩ = some (.int .u8 (c.toNat : Int)) := by
  obtain ⟨g, cap, hv, _, _, _, hc, _⟩ := h.form.resolve_left (fun h => hne h.2)
  exact ⟨g, cap, hv, hc⟩
theorem OwnB.len (h : OwnB w base e v l) : ∃ a cap, v = .slice a l.length cap := by
  rcases h.form with ⟨rfl, rfl⟩ | ⟨g, cap, rfl, _⟩
  · exact ⟨none, 0, rfl⟩
  · exact ⟨_, _, rfl⟩
end

theorem keeps_of {base : Nat} {w w' : World} {row : Option Nat} (hbase : base ≤ w.heap.size) (hg : w.grownBy w' row) (hr : ∀ k, row = some k → base ≤ k) : Keeps base w w' :=
  fun _ _ hB hb => hb.grown hg (Nat.le_trans hB hbase) fun k hk => Nat.le_trans hB (hr k hk)

section
variable {P : Program} (w : World)

/-- The conversion of an owned slice of bytes to a string. -/
theorem conv_own {base : Nat} {src e dst : TypeId} {v : Value} {l : List UInt8} (hs : P.underlying src = some (.slice e)) (he : P.underlying e = some (.int .u8)) (hd : P.underlying dst = some .string)
    (h : OwnB w base e v l) : (convert src dst v).run P w = .ok (.string (bs l)) w := by
  rcases h.form with ⟨rfl, rfl⟩ | ⟨g, cap, rfl, _, _, _, hc, _⟩
  · exact run_convert_bytes_nil w src e hs he 0 0 dst hd
  · have h := run_convert_bytes_arg (P := P) w src e hs he g 0 l.length cap (l.map fun c => (c.toNat : Int)) (by simp) (fun i hi => by
      rw [Nat.zero_add, hc i l[i] (List.getElem?_eq_getElem hi)]
      simp [hi]) dst hd
    rw [strOfNums_bs l _ (fun _ => rfl)] at h
    exact h

/-- One byte is appended. -/
theorem wpList_append_u8 {ops : Array Oper} {rest : List Oper} {o : Oper} {a : Act} {Q : Exit → Act → World → Prop} (hgd : o.guard = none) (s x : Operand) (t : TypeId)
    (ho : o.op = .call { callee := .builtin .append, args := #[s, x], argTypes := #[t, t] })
    (base : Nat) (e : TypeId) (i : TypeInfo) (ht : P.underlying t = some (.slice e)) (hi : P.info? e = some i) (hz : i.zero = some (.int .u8 0)) (hsize : i.size = 1) (hby : i.bytes = 1)
    (v : Value) (l : List UInt8) (hs : a.eval s = v) (hown : OwnB w base e v l) (c : UInt8) (n : Int) (hn : n = (c.toNat : Int)) (tt : TypeId)
    (hx : a.eval x = .slice (some ⟨w.heap.size, 0, none⟩) 1 1) (hlen : l.length + 1 ≤ 140737488355328) (hbase : base ≤ w.heap.size)
    (h : ∀ v' w', OwnB w' base e v' (l ++ [c]) → Keeps base w w' → wpList P ops Q rest (a.put o.dst v') w') : wpList P ops Q (o :: rest) a (w.alloc (.cells #[.int .u8 n] tt)) := by
  subst hn
  have hown' := hown.alloc (.cells #[.int .u8 (c.toNat : Int)] tt)
  refine wpList_append_own _ hgd s x t ho base e i (.int .u8 0) 1 1 ht hi hz hsize hby rfl (by omega) v l.length (cellsU8 l) hs hown' ⟨w.heap.size, 0, none⟩ 1 1 (cellsU8 [c]) hx rfl ?_ (cellsU8_one _)
    (by unfold maxLen; omega) (by omega) (by simp; omega) ?_
  · intro j u hj
    match j, hj with
    | 0, hj =>
      simp [cellsU8] at hj
      subst hj
      simp [Addr.add]
    | j + 1, hj => simp [cellsU8] at hj
  · intro v' w' h1 h2 _
    refine h v' w' ?_ ?_
    · unfold OwnB
      rw [cellsU8_append, List.length_append]
      exact h1
    · intro B w0 hB hb
      exact (hb.alloc (Nat.le_trans hB hbase) _).grown h2 (by simp; omega) fun k hk => Nat.le_trans hB (hown.lt k hk).1

/-- The bytes of a string are appended. -/
theorem wpList_append_str {ops : Array Oper} {rest : List Oper} {o : Oper} {a : Act} {Q : Exit → Act → World → Prop} (hgd : o.guard = none) (s x : Operand) (t u : TypeId)
    (ho : o.op = .call { callee := .builtin .append, args := #[s, x], argTypes := #[t, u] })
    (base : Nat) (e : TypeId) (i : TypeInfo) (ht : P.underlying t = some (.slice e)) (hu : P.underlying u = some .string) (hi : P.info? e = some i) (hz : i.zero = some (.int .u8 0)) (hsize : i.size = 1) (hby : i.bytes = 1)
    (v : Value) (l : List UInt8) (hs : a.eval s = v) (hown : OwnB w base e v l) (m : List UInt8)
    (hx : a.eval x = .string (bs m)) (hlen : l.length + m.length ≤ 140737488355328) (hbase : base ≤ w.heap.size)
    (h : ∀ v' w', OwnB w' base e v' (l ++ m) → Keeps base w w' → wpList P ops Q rest (a.put o.dst v') w') : wpList P ops Q (o :: rest) a w := by
  refine Lib.wpList_append_own_string _ hgd s x t u ho base e i ht hu hi hz hsize hby v l.length (cellsU8 l) hs hown (bs m) hx (by rw [bs_size]; unfold maxLen; omega) (by rw [bs_size]; omega) hbase ?_
  intro v' w' h1 h2 _
  refine h v' w' ?_ (keeps_of hbase h2 fun k hk => (hown.lt k hk).1)
  unfold OwnB
  rw [cellsU8_append, List.length_append]
  rw [bs_size] at h1
  exact h1
end

/-- Two calls, one behind the other. -/
theorem bthen {w w1 w2 : World} (h : Below w.heap.size w w1) (h2 : Below w1.heap.size w1 w2) : Below w.heap.size w w2 := h.trans (h2.mono h.size)

/-- What '[]byte(s)' gives. -/
theorem bytes_of {P : Program} (w : World) {src dst e : TypeId} (l : List UInt8) (hs : P.underlying src = some .string) (hd : P.underlying dst = some (.slice e)) (he : P.underlying e = some (.int .u8)) :
    ∃ cap w', (convert src dst (.string (bs l))).run P w = .ok (.slice (some ⟨w.heap.size, 0, none⟩) l.length cap) w' ∧ l.length ≤ cap ∧ Below w.heap.size w w' ∧ w'.heap.size = w.heap.size + 1 ∧
      (∀ j c, l[j]? = some c → w'.cell? ⟨w.heap.size, j, none⟩ = some (.int .u8 (c.toNat : Int))) ∧ (∀ j, j < l.length → w'.frozen? ⟨w.heap.size, j, none⟩ = false) := by
  have h := run_bytes_of_string (P := P) w src dst e (bs l) hs hd he
  have hge := grownCap_ge w (bs l).size 0 e
  rw [bs_size] at h hge
  have hsz : (bytesRow (bs l) (grownCap w l.length 0 e)).size = grownCap w l.length 0 e := by
    unfold bytesRow bs
    simp [ByteArray.size]
    omega
  refine ⟨_, _, h, hge, (Below.refl _ _).drew.alloc (Nat.le_refl _) _, by simp, ?_, ?_⟩
  · intro j c hj
    obtain ⟨hjl, rfl⟩ := List.getElem?_eq_some_iff.1 hj
    have := World.cell?_alloc_mark w.drew (bytesRow (bs l) (grownCap w l.length 0 e)) e ((bytesRow (bs l) (grownCap w l.length 0 e)).size, (bytesRow (bs l) (grownCap w l.length 0 e)).size + 1) j
    exact this.trans (bytesRow_get l _ j hjl)
  · intro j hj
    have := World.frozen?_alloc_mark w.drew (bytesRow (bs l) (grownCap w l.length 0 e)) e (bytesRow (bs l) (grownCap w l.length 0 e)).size ((bytesRow (bs l) (grownCap w l.length 0 e)).size + 1) j
    refine this.trans ?_
    rw [hsz]
    simp
    omega
/-- A row of bytes converted back, whatever lies behind it. -/
theorem conv_cells {P : Program} (w : World) {src e dst : TypeId} (hs : P.underlying src = some (.slice e)) (he : P.underlying e = some (.int .u8)) (hd : P.underlying dst = some .string) (g n cap : Nat) (l : List UInt8) (hn : l.length = n)
    (hc : ∀ j c, l[j]? = some c → w.cell? ⟨g, j, none⟩ = some (.int .u8 (c.toNat : Int))) : (convert src dst (.slice (some ⟨g, 0, none⟩) n cap)).run P w = .ok (.string (bs l)) w := by
  subst hn
  have h := run_convert_bytes_arg (P := P) w src e hs he g 0 l.length cap (l.map fun c => (c.toNat : Int)) (by simp) (fun i hi => by
    rw [Nat.zero_add, hc i l[i] (List.getElem?_eq_getElem hi)]
    simp [hi]) dst hd
  rw [strOfNums_bs l _ (fun _ => rfl)] at h
  exact h
end Go.Proofs.YtfmfadafpbnjoaaDoor
