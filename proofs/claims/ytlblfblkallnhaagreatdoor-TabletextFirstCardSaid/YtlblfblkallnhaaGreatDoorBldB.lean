/- One byte written to a strings.Builder. -/
import Derived.Test.YtlblfblkallnhaaGreatDoorBuilder
import Derived.Test.YtlblfblkallnhaaGreatDoorRow
namespace Go.Proofs.YtlblfblkallnhaaGreatDoor
set_option linter.unusedVariables false
set_option linter.unusedSimpArgs false
open Go.RowKit
attribute [local go_sem] bs_size bs_get bs_append bs_extract bs_toList
/-- One byte is appended, and nothing else turns. -/
theorem wpList_append_u8f {P : Program} (w : World) {ops : Array Oper} {rest : List Oper} {o : Oper} {a : Act} {Q : Exit → Act → World → Prop} (hgd : o.guard = none) (s x : Operand) (t : TypeId)
    (ho : o.op = .call { callee := .builtin .append, args := #[s, x], argTypes := #[t, t] })
    (base : Nat) (e : TypeId) (i : TypeInfo) (ht : P.underlying t = some (.slice e)) (hi : P.info? e = some i) (hz : i.zero = some (.int .u8 0)) (hsize : i.size = 1) (hby : i.bytes = 1)
    (v : Value) (l : List UInt8) (hs : a.eval s = v) (hown : OwnB w base e v l) (c : UInt8) (n : Int) (hn : n = (c.toNat : Int)) (tt : TypeId)
    (hx : a.eval x = .slice (some ⟨w.heap.size, 0, none⟩) 1 1) (hlen : l.length + 1 ≤ 140737488355328) (hbase : base ≤ w.heap.size)
    (h : ∀ v' w', OwnB w' base e v' (l ++ [c]) → Frm base e w w' → wpList P ops Q rest (a.put o.dst v') w') : wpList P ops Q (o :: rest) a (w.alloc (.cells #[.int .u8 n] tt)) := by
  subst hn
  have hown' := hown.alloc (.cells #[.int .u8 (c.toNat : Int)] tt)
  refine wpList_append_own _ hgd s x t ho base e i (.int .u8 0) 1 1 ht hi hz hsize hby rfl (by omega) v l.length (cellsU8 l) hs hown' ⟨w.heap.size, 0, none⟩ 1 1 (cellsU8 [c]) hx rfl ?_ (cellsU8_one _)
    (by unfold maxLen; omega) (by omega) (by simp; omega) ?_
  · intro j u hj
    match j, hj with
    | 0, hj =>
      simp [cellsU8] at hj
      subst hj
      simp [Addr.add]
    | j + 1, hj => simp [cellsU8] at hj
  · intro v' w' h1 h2 _
    refine h v' w' ?_ ?_
    · unfold OwnB
      rw [cellsU8_append, List.length_append]
      exact h1
    · exact (Frm.of_below ((Below.refl _ _).alloc (Nat.le_refl _) _)).trans (frm_of hown' h2)
set_option maxHeartbeats 2000000 in
set_option maxRecDepth 100000 in
theorem writeByte_any (B b : Nat) (l : List UInt8) (c : UInt8) (n : Int) (w : World) (hn : n = (c.toNat : Int)) (h : Bld B b l w) (hlen : l.length + 1 ≤ 140737488355328) (hBw : B ≤ w.heap.size) :
    Calls Tryz.prog 44 #[.pointer (some ⟨b, 0, none⟩), .int .u8 n] w fun e w' => e = .returned .nilIface ∧ Bld B b (l ++ [c]) w' ∧ Below B w w' ∧ Others b w w' := by
  have HN := Lib.hid hn
  clear hn
  obtain ⟨i0, hi, hz0, hz1, hz2⟩ := info_parts infoByteB
  go_enter Tryz.func44, Tryz.ntmps44
  go_wp2_with fail
  refine (copyCheck_any B b _ _ h).mono ?_
  rintro e w1 ⟨rfl, ⟨hB, v, hbk, hown, hne⟩, hb1, ho1⟩
  have hown1 : OwnB w1 B 5 v l := by
    rw [cellsU8_length] at hown
    exact hown
  have c0 : w1.cell? ⟨b, 0, none⟩ = some (.pointer (some ⟨b, 0, none⟩)) := by rw [Lib.cell_of_heap hbk]; rfl
  have c1 : w1.cell? ⟨b, 1, none⟩ = some v := by rw [Lib.cell_of_heap hbk]; rfl
  have hz := hb1.size
  go_wp2_with (at_builtin; refine wpList_append_u8f _ rfl _ _ 73 rfl B 5 i0 Tryz.underlying73 hi hz0 hz1 hz2 _ l rfl hown1 c _ HN.out _ rfl hlen (by omega) ?_; intro v' w2 hown2 hf2; obtain ⟨A', n', cap', rfl⟩ := slice_form hown2; have hb2 : w2.heap[b]? = some (.cells #[.pointer (some ⟨b, 0, none⟩), v] 75 (0, 0)) := hf2.blk hbk (by decide); have d0 : w2.cell? ⟨b, 0, none⟩ = some (.pointer (some ⟨b, 0, none⟩)) := (by rw [Lib.cell_of_heap hb2]; rfl); have d1 : w2.cell? ⟨b, 1, none⟩ = some v := (by rw [Lib.cell_of_heap hb2]; rfl); have f1 : w2.frozen? ⟨b, 1, none⟩ = false := Lib.frozen_of_heap hb2 1)
  go_ret
  refine ⟨rfl, Or.inr ?_, ?_, ?_⟩
  · refine Lib.BuilderAt.put hB hb2 ?_ (by decide)
    rw [cellsU8_length]
    exact hown2
  · exact (hf2.keeps (Nat.le_refl _) (by omega) hb1).setCell (p := ⟨b, 1, none⟩) hB _
  · intro k cs T fr hk hkb hT
    have hk1 := (ho1 k hk).trans hkb
    rw [Below.heap_setCell _ _ _ _ hk]
    exact hf2.obj k _ hk1 fun cs' fr' he => by simp only [Obj.cells.injEq] at he; exact hT he.2.1
end Go.Proofs.YtlblfblkallnhaaGreatDoor
