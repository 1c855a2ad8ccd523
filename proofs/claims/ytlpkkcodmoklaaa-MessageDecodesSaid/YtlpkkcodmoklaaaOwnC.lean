/- A slice of bytes that the call made by a conversion of a string, appended to: said by its cells alone. -/
import Derived.Test.YtlpkkcodmoklaaaOwn
import Derived.ArgAppend
import Derived.Deep.Upon
namespace Go.Proofs.Ytlpkkcodmoklaaa
open Go.RowKit

theorem sc_size (b : Nat) : ∀ (vs : List Value) (o : Nat) (w : World), (w.setCells b o vs).heap.size = w.heap.size
  | [], _, _ => rfl
  | v :: r, o, w => by
    rw [World.setCells, sc_size b r]
    simp [World.setCell]
theorem sc_tape (b : Nat) : ∀ (vs : List Value) (o : Nat) (w : World), (w.setCells b o vs).tape = w.tape
  | [], _, _ => rfl
  | v :: r, o, w => by
    rw [World.setCells, sc_tape b r]
    rfl
theorem sc_isSome (b : Nat) : ∀ (vs : List Value) (o : Nat) (w : World) (x : Addr), (w.cell? x).isSome = true → ((w.setCells b o vs).cell? x).isSome = true
  | [], _, _, _, h => h
  | v :: r, o, w, x, h => by
    rw [World.setCells]
    refine sc_isSome b r _ _ x ?_
    by_cases e : (⟨b, o, none⟩ : Addr) = x
    · subst e
      obtain ⟨u, hu⟩ := Option.isSome_iff_exists.1 h
      rw [World.cell?_setCell_same _ _ _ hu]
      rfl
    · rw [World.cell?_setCell_other _ _ _ _ e]
      exact h
def OwnC (w : World) (base : Nat) (v : Value) (l : List UInt8) : Prop :=
  ∃ g cap, v = .slice (some ⟨g, 0, none⟩) l.length cap ∧ base ≤ g ∧ g < w.heap.size ∧ l.length ≤ cap ∧ (∀ j c, l[j]? = some c → w.cell? ⟨g, j, none⟩ = some (.int .u8 (c.toNat : Int))) ∧
    ∀ j, j < cap → (w.cell? ⟨g, j, none⟩).isSome = true ∧ w.frozen? ⟨g, j, none⟩ = false
section
variable {w w' : World} {base : Nat} {v : Value} {l : List UInt8}
theorem OwnC.below (h : OwnC w base v l) (hb : Below w.heap.size w w') : OwnC w' base v l := by
  obtain ⟨g, cap, hv, h1, h2, h3, h4, h5⟩ := h
  refine ⟨g, cap, hv, h1, Nat.lt_of_lt_of_le h2 hb.size, h3, fun j c hj => (hb.cell (p := ⟨g, j, none⟩) h2).trans (h4 j c hj), fun j hj => ?_⟩
  rw [hb.cell (p := ⟨g, j, none⟩) h2, hb.frozen (p := ⟨g, j, none⟩) h2]
  exact h5 j hj
end
theorem bytes_ofC {P : Program} (w : World) {src dst e : TypeId} (l : List UInt8) (hs : P.underlying src = some .string) (hd : P.underlying dst = some (.slice e)) (he : P.underlying e = some (.int .u8)) :
    ∃ v w', (convert src dst (.string (bs l))).run P w = .ok v w' ∧ OwnC w' w.heap.size v l ∧ Below w.heap.size w w' := by
  have h := run_bytes_of_string (P := P) w src dst e (bs l) hs hd he
  have hge := grownCap_ge w (bs l).size 0 e
  rw [bs_size] at h hge
  have hsz : (bytesRow (bs l) (grownCap w l.length 0 e)).size = grownCap w l.length 0 e := by
    unfold bytesRow bs
    simp [ByteArray.size]
    omega
  refine ⟨_, _, h, ⟨_, _, rfl, Nat.le_refl _, by simp, hge, ?_, ?_⟩, (Below.refl _ _).drew.alloc (Nat.le_refl _) _⟩
  · intro j c hj
    obtain ⟨hjl, rfl⟩ := List.getElem?_eq_some_iff.1 hj
    have := World.cell?_alloc_mark w.drew (bytesRow (bs l) (grownCap w l.length 0 e)) e ((bytesRow (bs l) (grownCap w l.length 0 e)).size, (bytesRow (bs l) (grownCap w l.length 0 e)).size + 1) j
    exact this.trans (bytesRow_get l _ j hjl)
  · intro j hj
    have h1 := World.cell?_alloc_mark w.drew (bytesRow (bs l) (grownCap w l.length 0 e)) e ((bytesRow (bs l) (grownCap w l.length 0 e)).size, (bytesRow (bs l) (grownCap w l.length 0 e)).size + 1) j
    have h2 := World.frozen?_alloc_mark w.drew (bytesRow (bs l) (grownCap w l.length 0 e)) e (bytesRow (bs l) (grownCap w l.length 0 e)).size ((bytesRow (bs l) (grownCap w l.length 0 e)).size + 1) j
    refine ⟨?_, h2.trans ?_⟩
    · have : (bytesRow (bs l) (grownCap w l.length 0 e))[j]?.isSome = true := by simp [hsz, hj]
      rw [← h1] at this
      exact this
    · rw [hsz]
      simp
      omega
section
variable {P : Program} (w : World)
theorem conv_ownC {base : Nat} {src e dst : TypeId} {v : Value} {l : List UInt8} (hs : P.underlying src = some (.slice e)) (he : P.underlying e = some (.int .u8)) (hd : P.underlying dst = some .string)
    (h : OwnC w base v l) : (convert src dst v).run P w = .ok (.string (bs l)) w := by
  obtain ⟨g, cap, rfl, _, _, _, hc, _⟩ := h
  exact conv_cells w hs he hd g l.length cap l rfl hc
theorem run_append_strC (t u ty e : TypeId) (i : TypeInfo) (ht : P.underlying t = some (.slice e)) (hu : P.underlying u = some .string) (hi : P.info? e = some i) (hz : i.zero = some (.int .u8 0))
    (hsize : i.size = 1) (hby : i.bytes = 1) (base : Nat) (v : Value) (l m : List UInt8) (hown : OwnC w base v l) (hlen : l.length + m.length ≤ 140737488355328) (hbase : base ≤ w.heap.size) :
    ∃ v' w', (Builtin.append_ #[t, u] ty #[v, .string (bs m)]).run P w = .ok v' w' ∧ OwnC w' base v' (l ++ m) ∧ Keeps base w w' := by
  obtain ⟨g, cap, rfl, h1, h2, h3, h4, h5⟩ := hown
  have hsc : (Lib.strCells (bs m)).length = m.length := by rw [Lib.strCells_length, bs_size]
  have hscg : ∀ (j : Nat) (c : UInt8), m[j]? = some c → (Lib.strCells (bs m))[j]? = some (Value.int .u8 (c.toNat : Int)) := fun j c hj => by
    rw [strCells_bs, cellsU8_get, hj]; rfl
  by_cases hroom : l.length + m.length ≤ cap
  · have hst := run_storeCells_cells (P := P) g l.length (Lib.strCells (bs m)) 0 w (fun j hj => (h5 _ (by omega)).1) (fun j hj => (h5 _ (by omega)).2) (Lib.strCells_oneCell _)
    have hf := Lib.run_firstCells_string (P := P) w 1 (bs m)
    have hr : (Builtin.append_ #[t, u] ty #[.slice (some ⟨g, 0, none⟩) l.length cap, .string (bs m)]).run P w = .ok (.slice (some ⟨g, 0, none⟩) (l.length + m.length) cap) (w.setCells g l.length (Lib.strCells (bs m))) := by
      simp only [Nat.add_zero] at hst
      rw [bs_size] at hf
      simp [Builtin.append_, run_underlying ht, run_underlying hu, sizeOf, typeInfo, hi, hsize, Builtin.lenOf, bs_size, hroom, hf, Addr.add_lit, hst]
    refine ⟨_, _, hr, ⟨g, cap, by rw [List.length_append], h1, ?_, by rw [List.length_append]; omega, ?_, ?_⟩, ?_⟩
    · rw [sc_size]; exact h2
    · intro j c hj
      by_cases hjl : j < l.length
      · rw [List.getElem?_append_left hjl] at hj
        rw [World.cell?_setCells_out g _ _ _ _ (fun _ _ => Or.inl hjl)]
        exact h4 j c hj
      · rw [List.getElem?_append_right (by omega)] at hj
        have hjm : j - l.length < m.length := (List.getElem?_eq_some_iff.1 hj).1
        have hin := World.cell?_setCells_in g (Lib.strCells (bs m)) l.length w (fun j hj => (h5 _ (by omega)).1) (j - l.length) (by omega)
        rw [show l.length + (j - l.length) = j by omega] at hin
        rw [hin]
        have := hscg _ _ hj
        rw [List.getElem?_eq_getElem (by omega)] at this
        exact this
    · intro j hj
      refine ⟨?_, by rw [World.frozen?_setCells]; exact (h5 j hj).2⟩
      exact sc_isSome g _ _ _ _ (h5 j hj).1
    · intro B w0 hB hb
      refine hb.trans ⟨?_, ?_, ?_, ?_, ?_⟩
      · exact World.os_setCells _ _ _ _
      · exact sc_tape _ _ _ _
      · exact World.output_setCells _ _ _ _
      · rw [sc_size]; exact Nat.le_refl _
      · intro k hk
        exact World.heap_setCells_other _ _ _ _ (by omega) (by omega)
  · have hgr := Lib.run_append_grow_string (P := P) w t u ty e i (.int .u8 0) ht hu hi hz ⟨g, 0, none⟩ l.length cap (cellsU8 l) (by rw [cellsU8_length, hsize]; omega) (fun j x hj => by
        have hadd : (⟨g, 0, none⟩ : Addr).add j = ⟨g, j, none⟩ := by unfold Addr.add; split <;> simp_all
        rw [hadd]
        rw [cellsU8_get] at hj
        obtain ⟨c, hc, rfl⟩ := Option.map_eq_some_iff.1 hj
        exact h4 j c hc) (bs m) (by rw [bs_size]; omega) (by rw [bs_size]; omega) (by rw [hby, bs_size]; exact growslice_fits (by omega) (by omega))
    rw [bs_size] at hgr
    have hge := grownCap_ge w (l.length + m.length) cap e
    have hcs : ((cellsU8 l).toArray ++ (Lib.strCells (bs m)).toArray ++ Builtin.zeroCells (Value.int .u8 0).cells (grownCap w (l.length + m.length) cap e - (l.length + m.length))).size = grownCap w (l.length + m.length) cap e := by
      have hz1 : (Value.int IntKind.u8 0).cells.size = 1 := rfl
      simp only [Array.size_append, List.size_toArray, size_zeroCells, hz1, cellsU8_length, hsc]
      omega
    refine ⟨_, _, hgr, ⟨_, _, by rw [List.length_append], hbase, by simp, by rw [List.length_append]; exact hge, ?_, ?_⟩, ?_⟩
    · intro j c hj
      have hjl : j < (l ++ m).length := (List.getElem?_eq_some_iff.1 hj).1
      rw [List.length_append] at hjl
      refine (World.cell?_alloc_mark w.drew _ e (0, 0) j).trans ?_
      rw [Array.getElem?_append_left (by simp [cellsU8_length, hsc]; omega)]
      rw [strCells_bs, List.append_toArray, ← cellsU8_append, List.getElem?_toArray, cellsU8_get, hj]
      rfl
    · intro j hj
      refine ⟨?_, ?_⟩
      · have h1 := World.cell?_alloc_mark w.drew ((cellsU8 l).toArray ++ (Lib.strCells (bs m)).toArray ++ Builtin.zeroCells (Value.int .u8 0).cells (grownCap w (l.length + m.length) cap e - (l.length + m.length))) e (0, 0) j
        have h2 : ((cellsU8 l).toArray ++ (Lib.strCells (bs m)).toArray ++ Builtin.zeroCells (Value.int .u8 0).cells (grownCap w (l.length + m.length) cap e - (l.length + m.length)))[j]?.isSome = true := by
          rw [Array.getElem?_eq_getElem (by rw [hcs]; exact hj)]
          rfl
        rw [← h1] at h2
        exact h2
      · refine (World.frozen?_alloc_mark w.drew _ e 0 0 j).trans ?_
        simp
    · intro B w0 hB hb
      exact hb.drew.alloc (by simp; omega) _
/-- The bytes of a string are appended. -/
theorem wpList_append_strC {ops : Array Oper} {rest : List Oper} {o : Oper} {a : Act} {Q : Exit → Act → World → Prop} (hgd : o.guard = none) (s x : Operand) (t u : TypeId)
    (ho : o.op = .call { callee := .builtin .append, args := #[s, x], argTypes := #[t, u] })
    (base : Nat) (e : TypeId) (i : TypeInfo) (ht : P.underlying t = some (.slice e)) (hu : P.underlying u = some .string) (hi : P.info? e = some i) (hz : i.zero = some (.int .u8 0)) (hsize : i.size = 1) (hby : i.bytes = 1)
    (v : Value) (l : List UInt8) (hs : a.eval s = v) (hown : OwnC w base v l) (m : List UInt8)
    (hx : a.eval x = .string (bs m)) (hlen : l.length + m.length ≤ 140737488355328) (hbase : base ≤ w.heap.size)
    (h : ∀ v' w', OwnC w' base v' (l ++ m) → Keeps base w w' → wpList P ops Q rest (a.put o.dst v') w') : wpList P ops Q (o :: rest) a w := by
  refine wpList_plain hgd fun K hK => ?_
  obtain ⟨v', w', hr, h2, h3⟩ := run_append_strC (P := P) w t u o.type e i ht hu hi hz hsize hby base v l m hown hlen hbase
  unfold Oper.wp execOp
  simp only [ho, resolve, invoke, builtin, Sem.run_bind, Sem.run_pure, Result.andThen_ok, List.map_toArray, List.map_cons, List.map_nil, hs, hx, hr]
  exact hK _ _ (h v' w' h2 h3)
end
end Go.Proofs.Ytlpkkcodmoklaaa
