/- Rows of numbers that a call makes: appended to, read, written. -/
import Derived.Test.YtaedelcbioiogaaTtPlainC
import Derived.Test.YtaedelcbioiogaaTtLawsA
import Derived.Deep.AppendLies
namespace Go.Proofs.Ytaedelcbioiogaa
set_option linter.unusedVariables false
set_option linter.unusedSimpArgs false
open Go.RowKit
def cI1 (x : List Int) : List Value := x.map (Value.int .i64)
theorem own_below {w w' : World} {base B : Nat} {e : TypeId} {size n : Nat} {v : Value} {xs : List Value} (h : w.ownsRow base e size v n xs) (hb : Below w.heap.size w w') : w'.ownsRow base e size v n xs :=
  World.ownsRow.kept h (row := none) ⟨hb.os, hb.tape, hb.output, hb.size, fun i hi _ => hb.block i hi⟩ (by cases hv : v.ownBlock <;> simp)
theorem own_apart {w w' : World} {base base' : Nat} {e e' : TypeId} {size n size' n' : Nat} {v v' : Value} {xs xs' : List Value} (h : w.ownsRow base e size v n xs) (h' : w.ownsRow base' e' size' v' n' xs') (hne : e ≠ e') (hg : w.grownBy w' v'.ownBlock) : w'.ownsRow base e size v n xs := by
  refine World.ownsRow.kept h hg ?_
  rcases h.2 with ⟨rfl, _⟩ | ⟨g, cap, cur, rfl, _, hb, _⟩
  · exact Or.inl rfl
  · right
    intro he
    rcases h'.2 with ⟨rfl, _⟩ | ⟨g', cap', cur', rfl, _, hb', _⟩
    · cases he
    · have : g = g' := Option.some.inj he
      subst this
      rw [hb] at hb'
      simp only [Option.some.injEq, Obj.cells.injEq] at hb'
      exact hne hb'.2.1
/-- The slice v holds rows of numbers, each of which the call owns; no two share a block. -/
structure Rows2 (w : World) (base : Nat) (v : Value) (us : List Value) (L : List (List Int)) : Prop where
  own : w.ownsRow base 23 1 v L.length us
  row : ∀ (j : Nat) (u : Value) (x : List Int), us[j]? = some u → L[j]? = some x → w.ownsRow base 3 1 u x.length (cI1 x)
  apart : ∀ (i j : Nat) (u u' : Value), us[i]? = some u → us[j]? = some u' → i ≠ j → u.ownBlock ≠ none → u.ownBlock ≠ u'.ownBlock
section
variable {w w' : World} {base : Nat} {v : Value} {us : List Value} {L : List (List Int)}
theorem Rows2.len (h : Rows2 w base v us L) : us.length = L.length := by have := h.own.1; omega
theorem Rows2.nil (w : World) (base : Nat) : Rows2 w base (.slice none 0 0) [] [] := ⟨World.ownsRow_nil w base 23 1, fun j u x hu => by simp at hu, fun i j u u' hu => by simp at hu⟩
theorem Rows2.below (h : Rows2 w base v us L) (hb : Below w.heap.size w w') : Rows2 w' base v us L :=
  ⟨own_below (B := 0) h.own hb, fun j u x hu hx => own_below (B := 0) (h.row j u x hu hx) hb, h.apart⟩
/-- One more row. -/
theorem Rows2.snoc {u v' : Value} {x : List Int} (h : Rows2 w base v us L) (hr : w.ownsRow base 3 1 u x.length (cI1 x)) (hap : ∀ (j : Nat) (u' : Value), us[j]? = some u' → u'.ownBlock ≠ none → u'.ownBlock ≠ u.ownBlock)
    (hown : w'.ownsRow base 23 1 v' (L.length + 1) (us ++ [u])) (hg : w.grownBy w' v.ownBlock) : Rows2 w' base v' (us ++ [u]) (L ++ [x]) := by
  have hl := h.len
  refine ⟨by rw [List.length_append]; exact hown, fun j u' x' hu hx => ?_, fun i j a b ha hb hne hn => ?_⟩
  · by_cases hj : j < us.length
    · rw [List.getElem?_append_left hj] at hu
      rw [List.getElem?_append_left (by omega)] at hx
      exact own_apart (h.row j u' x' hu hx) h.own (by decide) hg
    · rw [List.getElem?_append_right (by omega)] at hu
      rw [List.getElem?_append_right (by omega)] at hx
      have hj0 : j = us.length := by
        have := (List.getElem?_eq_some_iff.1 hu).1
        simp at this
        omega
      subst hj0
      simp at hu
      rw [hl] at hx
      simp at hx
      subst hu hx
      exact own_apart hr h.own (by decide) hg
  · by_cases hi : i < us.length
    · rw [List.getElem?_append_left hi] at ha
      by_cases hj : j < us.length
      · rw [List.getElem?_append_left hj] at hb
        exact h.apart i j a b ha hb hne hn
      · rw [List.getElem?_append_right (by omega)] at hb
        have hj0 : j = us.length := by
          have := (List.getElem?_eq_some_iff.1 hb).1
          simp at this
          omega
        subst hj0
        simp at hb
        subst hb
        exact hap i a ha hn
    · rw [List.getElem?_append_right (by omega)] at ha
      have hi0 : i = us.length := by
        have := (List.getElem?_eq_some_iff.1 ha).1
        simp at this
        omega
      subst hi0
      simp at ha
      subst ha
      have hj : j < us.length := by
        have := (List.getElem?_eq_some_iff.1 hb).1
        simp at this
        omega
      rw [List.getElem?_append_left hj] at hb
      intro he
      exact hap j b hb (by rw [← he]; exact hn) he.symm
/-- A row of numbers that the call owns reads as numbers. -/
theorem rds_own1 {e : TypeId} {x : List Int} {u : Value} (h : w.ownsRow base e 1 u x.length (cI1 x)) (hx : ∀ n ∈ x, I64n n) : ∃ A c, u = .slice A x.length c ∧ x.length ≤ maxLen ∧ RdS cI w w.heap.size A x := by
  rcases h.2 with ⟨rfl, h0⟩ | ⟨g, cap, cur, rfl, _, hg, hc, hm, _, htake⟩
  · exact ⟨none, 0, by rw [h0], by omega, fun hl => by omega⟩
  · refine ⟨_, _, rfl, by omega, fun hl => ⟨g, 0, rfl, (Array.getElem?_eq_some_iff.1 hg).1, fun i n hn => ⟨_, ⟨rfl, hx n (List.mem_of_getElem? hn)⟩, fun j u hu => ?_⟩⟩⟩
    match j, hu with
    | 0, hu =>
      simp at hu
      subst hu
      show w.cell? ⟨g, 0 + i * 1 + 0, none⟩ = some (.int .i64 n)
      have := World.ownsRow.cellAt h i (by have := (List.getElem?_eq_some_iff.1 hn).1; omega)
      rw [show 0 + i * 1 + 0 = i by omega, this, cI1, List.getElem?_map, hn]
      rfl
    | j + 1, hu => simp at hu
theorem Rows2.rd (h : Rows2 w base v us L) (hx : ∀ x ∈ L, ∀ n ∈ x, I64n n) : ∃ A c, v = .slice A L.length c ∧ RdS (cL cI) w w.heap.size A L := by
  have hl := h.len
  rcases h.own.2 with ⟨rfl, h0⟩ | ⟨g, cap, cur, rfl, _, hg, hc, hm, _, htake⟩
  · exact ⟨none, 0, by rw [h0], fun hl => by omega⟩
  · refine ⟨_, _, rfl, fun _ => ⟨g, 0, rfl, (Array.getElem?_eq_some_iff.1 hg).1, fun i x hxi => ?_⟩⟩
    have hi : i < us.length := by have := (List.getElem?_eq_some_iff.1 hxi).1; omega
    obtain ⟨A, c, hu, hm', hr⟩ := rds_own1 (h.row i us[i] x (List.getElem?_eq_getElem hi) hxi) (hx x (List.mem_of_getElem? hxi))
    refine ⟨[us[i]], ⟨A, c, by rw [hu], hm', hr⟩, fun j u hj => ?_⟩
    match j, hj with
    | 0, hj =>
      simp at hj
      subst hj
      show w.cell? ⟨g, 0 + i * 1 + 0, none⟩ = some us[i]
      have := World.ownsRow.cellAt h.own i (by omega)
      rw [show 0 + i * 1 + 0 = i by omega, this, List.getElem?_eq_getElem hi]
    | j + 1, hj => simp at hj
theorem own_base {e : TypeId} {base' size n : Nat} {xs : List Value} (h : w.ownsRow base' e size v n xs) (hb : base ≤ base') : w.ownsRow base e size v n xs := by
  refine ⟨h.1, ?_⟩
  rcases h.2 with h1 | ⟨g, cap, cur, h1, h2, h3⟩
  · exact .inl h1
  · exact .inr ⟨g, cap, cur, h1, Nat.le_trans hb h2, h3⟩
/-- A number in the rows: where it lies. -/
theorem Rows2.at_ (h : Rows2 w base v us L) {i k : Nat} {x : List Int} {d : Int} (hi : L[i]? = some x) (hk : x[k]? = some d) :
    ∃ g c g' cap, v = .slice (some ⟨g, 0, none⟩) L.length c ∧ us[i]? = some (.slice (some ⟨g', 0, none⟩) x.length cap) ∧ w.cell? ⟨g, i, none⟩ = some (.slice (some ⟨g', 0, none⟩) x.length cap) ∧ w.cell? ⟨g', k, none⟩ = some (.int .i64 d) ∧ w.frozen? ⟨g', k, none⟩ = false ∧ base ≤ g' := by
  have hl := h.len
  have hiL : i < L.length := (List.getElem?_eq_some_iff.1 hi).1
  have hkx : k < x.length := (List.getElem?_eq_some_iff.1 hk).1
  have hiu : i < us.length := by omega
  have hr := h.row i us[i] x (List.getElem?_eq_getElem hiu) hi
  have ho := h.own
  rcases ho.2 with ⟨rfl, h0⟩ | ⟨g, c, cur, rfl, _, hg, hc, hm, _, htake⟩
  · omega
  · rcases hr.2 with ⟨hu, h0⟩ | ⟨g', cap, cur', hu, hb', hg', hc', hm', _, htake'⟩
    · omega
    · rw [hu] at hr
      refine ⟨g, c, g', cap, rfl, by rw [List.getElem?_eq_getElem hiu, hu], ?_, ?_, World.ownsRow.frozenAt hr k, hb'⟩
      · rw [World.ownsRow.cellAt ho i (by omega), List.getElem?_eq_getElem hiu, hu]
      · rw [World.ownsRow.cellAt hr k (by omega), cI1, List.getElem?_map, hk]
        rfl
/-- A number is written. -/
theorem Rows2.put (h : Rows2 w base v us L) {i k g' cap : Nat} {x : List Int} (y : Int) (hi : L[i]? = some x) (hu : us[i]? = some (.slice (some ⟨g', 0, none⟩) x.length cap)) : Rows2 (w.setCell ⟨g', k, none⟩ (.int .i64 y)) base v us (L.set i (x.set k y)) := by
  have hr := h.row i _ x hu hi
  obtain ⟨hs, hg⟩ := World.ownsRow.stored hr k (.int .i64 y)
  have hset : (cI1 x).set k (.int .i64 y) = cI1 (x.set k y) := by unfold cI1; rw [List.map_set]
  rw [hset] at hs
  refine ⟨by rw [List.length_set]; exact own_apart (v' := .slice (some ⟨g', 0, none⟩) x.length cap) h.own hr (by decide) hg, fun j u' x' hu' hx' => ?_, h.apart⟩
  by_cases hji : i = j
  · subst hji
    rw [hu] at hu'
    rw [List.getElem?_set_self (List.getElem?_eq_some_iff.1 hi).1] at hx'
    obtain rfl := Option.some.inj hu'
    obtain rfl := Option.some.inj hx'
    rw [List.length_set]
    exact hs
  · rw [List.getElem?_set_ne hji] at hx'
    exact World.ownsRow.kept (h.row j u' x' hu' hx') hg (.inr fun e => h.apart i j _ u' hu hu' hji (by simp [Value.ownBlock]) (by rw [e]; rfl))
end
section
variable {P : Program} (w : World)
/-- One number is appended. -/
theorem wpList_append_i64 {ops : Array Oper} {rest : List Oper} {o : Oper} {a : Act} {Q : Exit → Act → World → Prop} (hgd : o.guard = none) (s x : Operand) (t : TypeId)
    (ho : o.op = .call { callee := .builtin .append, args := #[s, x], argTypes := #[t, t] })
    (base : Nat) (e : TypeId) (i : TypeInfo) (ht : P.underlying t = some (.slice e)) (hi : P.info? e = some i) (hz : i.zero = some (.int .i64 0)) (hsize : i.size = 1) (hby : i.bytes = 8)
    (v : Value) (l : List Int) (hs : a.eval s = v) (hown : w.ownsRow base e 1 v l.length (cI1 l)) (d : Int) (tt : TypeId)
    (hx : a.eval x = .slice (some ⟨w.heap.size, 0, none⟩) 1 1) (hlen : l.length + 1 ≤ 1000000) (hbase : base ≤ w.heap.size) (w0 : World) (hw0 : Below base w0 w)
    (h : ∀ v' w', w'.ownsRow base e 1 v' (l.length + 1) (cI1 (l ++ [d])) → Below base w0 w' → wpList P ops Q rest (a.put o.dst v') w') : wpList P ops Q (o :: rest) a (w.alloc (.cells #[.int .i64 d] tt)) := by
  have hown' := hown.alloc (.cells #[.int .i64 d] tt)
  refine wpList_append_own _ hgd s x t ho base e i (.int .i64 0) 1 8 ht hi hz hsize hby rfl (by omega) v l.length (cI1 l) hs hown' ⟨w.heap.size, 0, none⟩ 1 1 (cI1 [d]) hx rfl ?_ ?_ (by unfold maxLen; omega) (by omega) (by simp; omega) ?_
  · intro j u hj
    match j, hj with
    | 0, hj =>
      simp [cI1] at hj
      subst hj
      simp [Addr.add]
    | j + 1, hj => simp [cI1] at hj
  · intro u hu
    simp [cI1] at hu
    subst hu
    rfl
  · intro v' w' h1 h2 _
    refine h v' w' ?_ ((hw0.alloc hbase _).grown h2 (by simp; omega) fun k hk => (hown.lt k hk).1)
    unfold cI1 at h1 ⊢
    rw [List.map_append]
    exact h1
/-- One row is appended. -/
theorem wpList_append_row1 {ops : Array Oper} {rest : List Oper} {o : Oper} {a : Act} {Q : Exit → Act → World → Prop} (hgd : o.guard = none) (s x : Operand) (t : TypeId)
    (ho : o.op = .call { callee := .builtin .append, args := #[s, x], argTypes := #[t, t] })
    (base : Nat) (e : TypeId) (i : TypeInfo) (ht : P.underlying t = some (.slice e)) (hi : P.info? e = some i) (hz : i.zero = some (.slice none 0 0)) (hsize : i.size = 1) (hby : i.bytes = 24)
    (v : Value) (us : List Value) (n : Nat) (hn : us.length = n) (hs : a.eval s = v) (hown : w.ownsRow base e 1 v n us) (A : Option Addr) (m c : Nat) (tt : TypeId)
    (hx : a.eval x = .slice (some ⟨w.heap.size, 0, none⟩) 1 1) (hlen : n + 1 ≤ 1000000) (hbase : base ≤ w.heap.size)
    (h : ∀ v' w', w'.ownsRow base e 1 v' (n + 1) (us ++ [.slice A m c]) → (w.alloc (.cells #[.slice A m c] tt)).grownBy w' v.ownBlock → wpList P ops Q rest (a.put o.dst v') w') : wpList P ops Q (o :: rest) a (w.alloc (.cells #[.slice A m c] tt)) := by
  have hown' := hown.alloc (.cells #[.slice A m c] tt)
  refine wpList_append_own _ hgd s x t ho base e i (.slice none 0 0) 1 24 ht hi hz hsize hby rfl (by omega) v n us hs hown' ⟨w.heap.size, 0, none⟩ 1 1 [.slice A m c] hx rfl ?_ ?_ (by unfold maxLen; omega) (by omega) (by simp; omega) ?_
  · intro j u hj
    match j, hj with
    | 0, hj =>
      simp at hj
      subst hj
      simp [Addr.add]
    | j + 1, hj => simp at hj
  · intro u hu
    simp at hu
    subst hu
    rfl
  · intro v' w' h1 h2 _
    exact h v' w' h1 h2
end
end Go.Proofs.Ytaedelcbioiogaa
