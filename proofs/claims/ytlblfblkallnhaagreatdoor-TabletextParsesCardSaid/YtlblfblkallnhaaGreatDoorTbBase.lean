/- Rows, appends, sets and small facts for chapter 17. -/
import Derived.Test.YtlblfblkallnhaaGreatDoorRows
import Derived.Test.YtlblfblkallnhaaGreatDoorRow
import Derived.Test.YtlblfblkallnhaaGreatDoorWdGH
import Derived.Deep.RegionLawGrows
import Derived.OwnWalk
import Derived.OrdersHeld
import Derived.Maps.OwnSet
import Derived.Maps.RangeWalk
import Derived.DeepKeys4
import Derived.Deep.QuietTactic
import Derived.BigQuiet
namespace Go.Proofs.YtlblfblkallnhaaGreatDoor
set_option linter.unusedVariables false
set_option linter.unusedSimpArgs false
open Go.RowKit
section
variable {w : World} {S : Nat → Prop} {A : Option Addr}
theorem RdS.elS {l : List (List UInt8)} (h : RdS cS w S A l) {i : Nat} (hi : i < l.length) :
    ∃ b off, A = some ⟨b, off, none⟩ ∧ S b ∧ l[i].length ≤ maxLen ∧ w.cell? ⟨b, off + i, none⟩ = some (.string (bs l[i])) := by
  obtain ⟨b, off, h1, h2, h3⟩ := h (by omega)
  obtain ⟨ys, ⟨rfl, h4⟩, h5⟩ := h3 i l[i] (List.getElem?_eq_getElem hi)
  have := h5 0 _ rfl
  have e : off + i * cS.size + 0 = off + i := by simp [cS]
  rw [e] at this
  exact ⟨b, off, h1, h2, h4, this⟩
end
theorem lsa {α : Type} (l : List α) (i : Nat) (a : α) : l.toArray.setIfInBounds i a = (l.set i a).toArray := List.setIfInBounds_toArray l i a
theorem lsz {α : Type} (x a : α) (l : List α) : (x :: l).set 0 a = a :: l := List.set_cons_zero
theorem lss {α : Type} (x a : α) (l : List α) (n : Nat) : (x :: l).set (n + 1) a = x :: l.set n a := List.set_cons_succ
/-- wpAnyH_take, its three closed side conditions as one. -/
theorem tkY {P : Program} {md : Region.Mode} {ops : Array Oper} {Q : Exit → Act → World → Prop} {S : World → Prop} {i : Nat} {oi : Oper} {v : Value} {fuel : Nat} {listed : Array Bool} {a : Act} {w : World} (hi : ops[i]? = some oi)
    (hc : (Region.noSelect ops && (Region.free md ops listed i && (Region.ready md ops listed).contains i)) = true)
    (hQ : ∀ c a w, Q (.panic c) (a.put oi.dst v) w → Q (.panic c) a w) (hy : YieldsIf P ops S oi v a) (hS : S w)
    (h : wpAnyH P md ops Q S fuel (listed.setIfInBounds i true) (a.put oi.dst v) w) : wpAnyH P md ops Q S (fuel + 1) listed a w := by
  rw [Bool.and_eq_true, Bool.and_eq_true] at hc
  exact wpAnyH_take hi hc.1 hc.2.1 hc.2.2 hQ hy hS h
theorem ret_iL {a b : Int} (h : a = b) : Ending.returned (.int .i64 a) = .returned (.int .i64 b) := by rw [h]
theorem fields_of {P : Program} {t : TypeId} {fs : Array Field} (h : P.underlying t = some (.struct fs)) : P.fieldsOf t = fs := by unfold Program.fieldsOf; rw [h]
theorem itoaP_len (n : Int) (h : -9223372036854775808 ≤ n ∧ n ≤ 9223372036854775807) : (Lib.itoa n).length ≤ 21 := by
  have h1 : ∀ u : Nat, u ≤ 9223372036854775808 → (Lib.decDigits u).length ≤ 20 := fun u hu => by rw [Lib.decDigits_length]; exact Lib.nDigits_le20 u (by omega)
  unfold Lib.itoa
  split
  · have := h1 n.natAbs (by omega)
    simp only [List.length_cons]
    omega
  · have := h1 n.toNat (by omega)
    omega
def wlen (ws : List (List UInt8)) : Nat := (ws.map fun w => w.length + 1).sum
theorem lineP_len : ∀ (ws : List (List UInt8)), ws ≠ [] → (lineT ws).length = wlen ws
  | [], h => absurd rfl h
  | [w], _ => by simp [lineT, Lib.join_one, wlen]
  | w :: v :: r, _ => by
    have ih := lineP_len (v :: r) (by simp)
    have e : Lib.join (w :: v :: r) [32] = w ++ ([32] ++ Lib.join (v :: r) [32]) := by unfold Lib.join; simp [List.intercalate]
    unfold lineT at ih ⊢
    rw [e]
    simp only [List.length_append, List.length_cons, List.length_nil, wlen, List.map_cons, List.sum_cons] at ih ⊢
    omega
theorem own_lower {w : World} {base base' : Nat} {e : TypeId} {size n : Nat} {v : Value} {xs : List Value} (h : w.ownsRow base' e size v n xs) (hb : base ≤ base') : w.ownsRow base e size v n xs := by
  refine ⟨h.1, ?_⟩
  rcases h.2 with h | ⟨g, cap, cur, h1, h2, h3⟩
  · exact Or.inl h
  · exact Or.inr ⟨g, cap, cur, h1, by omega, h3⟩
theorem own_addr {g j : Nat} : (⟨g, 0, none⟩ : Addr).add j = ⟨g, j, none⟩ := by
  unfold Addr.add
  split
  · rename_i h0; subst h0; rfl
  · simp
/-- An append to a row of one's own: the old slice stays what it was. -/
theorem own_append {P : Program} (w : World) (base : Nat) (t ty e : TypeId) (i : TypeInfo) (z : Value) (size bytes : Nat) (ht : P.underlying t = some (.slice e)) (hi : P.info? e = some i) (hz : i.zero = some z)
    (hsize : i.size = size) (hby : i.bytes = bytes) (hzs : z.cells.size = size) (hsz : 0 < size) (v : Value) (n : Nat) (xs : List Value) (hown : w.ownsRow base e size v n xs)
    (a : Addr) (m c : Nat) (news : List Value) (hl : news.length = m * size) (hnews : ∀ j u, news[j]? = some u → w.cell? (a.add j) = some u) (h1 : ∀ u ∈ news, u.oneCell' = true)
    (h63 : n + m ≤ maxLen) (hbytes : (n + m) * bytes ≤ 140737488355328) (hbase : base ≤ w.heap.size) :
    ∃ v' w', (Builtin.append_ #[t, t] ty #[v, .slice (some a) m c]).run P w = .ok v' w' ∧ w'.ownsRow base e size v' (n + m) (xs ++ news) ∧ w.grownBy w' v.ownBlock ∧ w'.ownsRow base e size v n xs := by
  have hw := hown
  rcases hown.2 with ⟨rfl, h0⟩ | ⟨g, cap, cur, rfl, hbg, hg, hnc, hcm, hcs, htake⟩
  · obtain ⟨v', w', h2, h3, h4, _⟩ := run_append_own (P := P) w base t ty e i z size bytes ht hi hz hsize hby hzs hsz _ n xs hw a m c news hl hnews h1 h63 hbytes hbase
    exact ⟨v', w', h2, h3, h4, hw.1, Or.inl ⟨rfl, h0⟩⟩
  · by_cases hfit : n + m ≤ cap
    · obtain ⟨w', h2, h3, h4⟩ := run_append_fits (P := P) w base t ty e i size ht hi hsize g n cap xs hw a m c news hl hnews h1 hfit
      refine ⟨_, w', h2, h3, h4, hw.1, ?_⟩
      rcases h3.2 with ⟨h5, _⟩ | ⟨g', cap', cur', hv, hb', hg', hn', hm', hs', ht'⟩
      · cases h5
      · simp only [Value.slice.injEq, Option.some.injEq, Addr.mk.injEq] at hv
        obtain ⟨⟨rfl, _, _⟩, _, rfl⟩ := hv
        refine Or.inr ⟨g, cap, cur', rfl, hbg, hg', hnc, hcm, hs', ?_⟩
        have hxl : xs.length = n * size := by simpa using hw.1
        have h6 := congrArg (List.take (n * size)) ht'
        rw [List.take_take, ← hxl, List.take_left', Nat.min_eq_left (by rw [hxl]; exact Nat.mul_le_mul_right _ (by omega))] at h6
        · rw [← hxl]; exact h6
        · rfl
    · obtain ⟨v', w', h2, h3, h4⟩ := run_append_arg_grows (P := P) w t ty e i z size bytes ht hi hz hsize hby hzs hsz ⟨g, 0, none⟩ n cap xs (by simpa using hw.1) (fun j u hj => by
        have hjl := (List.getElem?_eq_some_iff.1 hj).1
        have hxl : xs.length = n * size := by simpa using hw.1
        rw [own_addr, World.ownsRow.cellAt hw j (by omega), hj]) a m c news hl hnews (by omega) h63 hbytes
      exact ⟨v', w', h2, own_lower h3 hbase, ⟨h4.os, h4.tape, h4.output, h4.size, fun k hk _ => h4.block k hk (by simp)⟩, hw.kept h4 (Or.inr (by simp [Value.ownBlock]))⟩
section
variable {P : Program} {α : Type} {c : Cod α}
theorem OwnR.turn {w w' : World} {base B : Nat} {e : TypeId} {v : Value} {l : List α} (h : OwnR c w base e v l B) (hf : Frm base e w w') (hown : ∀ xs, w.ownsRow base e c.size v l.length xs → w'.ownsRow base e c.size v l.length xs) : OwnR c w' base e v l B := by
  obtain ⟨xs, h1, h2, h3⟩ := h
  have hs : ∀ b, Sep w e B b → w'.heap[b]? = w.heap[b]? := fun b hb => by
    have hlt : b < w.heap.size := by have := hb.1; omega
    have ho : w.heap[b]? = some w.heap[b] := Array.getElem?_eq_getElem hlt
    rw [hf.obj b _ ho fun cs fr hx => hb.2 cs fr (by rw [ho, hx]), ho]
  exact ⟨xs, hown xs h1, (h2.keep fun p hp => cell_same (hs _ hp)).more fun b hb => ⟨hb.1, fun cs fr hx => hb.2 cs fr (by rw [← hs b hb]; exact hx)⟩, Nat.le_trans h3 hf.size⟩
/-- One more datum is appended, as a step of a region that draws its order: the old slice stays what it was. -/
theorem step_append_r {w : World} {ops : Array Oper} {o : Oper} {a : Act} {K : Act → World → Prop} {Q : Exit → Act → World → Prop} {E : Prop} (hgd : o.guard = none) (s x : Operand) (t : TypeId)
    (ho : o.op = .call { callee := .builtin .append, args := #[s, x], argTypes := #[t, t] })
    (base : Nat) (e : TypeId) (i : TypeInfo) (z : Value) (bytes : Nat) (ht : P.underlying t = some (.slice e)) (hi : P.info? e = some i) (hz : i.zero = some z) (hsize : i.size = c.size) (hby : i.bytes = bytes) (hzs : z.cells.size = c.size) (hc : 0 < c.size)
    (v : Value) (l : List α) (B : Nat) (hs : a.eval s = v) (hown : OwnR c w base e v l B) (ys : List Value) (y : α) (hy : c.rd w (Sep w e w.heap.size) ys y) (h1 : ∀ u ∈ ys, u.oneCell' = true) (g : Nat)
    (hx : a.eval x = .slice (some ⟨g, 0, none⟩) 1 1) (hcell : ∀ j u, ys[j]? = some u → w.cell? ⟨g, j, none⟩ = some u) (hlen : l.length ≤ 100000) (hbl : bytes ≤ 1000) (hbase : base ≤ w.heap.size)
    (h : ∀ v' w', OwnR c w' base e v' (l ++ [y]) w'.heap.size → OwnR c w' base e v l B → Frm base e w w' → K (a.put o.dst v') w') : if Region.wanted o (yielded ops a.tmps) = true then Oper.wp P o a w K Q else E := by
  have hw : Region.wanted o (yielded ops a.tmps) = true := by simp [Region.wanted, hgd]
  rw [if_pos hw]
  have hyl := c.len hy
  have hown0 := hown
  obtain ⟨xs, hown, hrd, hB⟩ := hown.raise (by obtain ⟨_, _, _, h⟩ := hown; exact h) (Nat.le_refl _)
  obtain ⟨v', w', hrun, h2, h3, h4⟩ := own_append (P := P) w base t o.type e i z c.size bytes ht hi hz hsize hby hzs hc v l.length xs hown ⟨g, 0, none⟩ 1 1 ys (by omega) (fun j u hj => by rw [own_addr]; exact hcell j u hj) h1
    (by unfold maxLen; omega) (Nat.le_trans (Nat.mul_le_mul (show l.length + 1 ≤ 1000000 by omega) hbl) (by omega)) hbase
  have hf := frm_of hown h3
  have hs' : ∀ b, Sep w e w.heap.size b → w'.heap[b]? = w.heap[b]? := fun b hb => by
    have hlt : b < w.heap.size := hb.1
    have ho : w.heap[b]? = some w.heap[b] := Array.getElem?_eq_getElem hlt
    rw [hf.obj b _ ho fun cs fr hx => hb.2 cs fr (by rw [ho, hx]), ho]
  have key : RdC c w (Sep w e w.heap.size) (xs ++ ys) (l ++ [y]) := hrd.snoc hy
  have hnew : OwnR c w' base e v' (l ++ [y]) w'.heap.size := ⟨xs ++ ys, by rw [List.length_append]; exact h2, (key.keep fun p hp => cell_same (hs' _ hp)).more fun b hb => ⟨Nat.lt_of_lt_of_le hb.1 hf.size, fun cs fr hx => hb.2 cs fr (by rw [← hs' b hb]; exact hx)⟩, Nat.le_refl _⟩
  have hold : OwnR c w' base e v l B := hown0.turn hf fun xs' hx' => by
    obtain ⟨v2, w2, hrun2, _, _, h6⟩ := own_append (P := P) w base t o.type e i z c.size bytes ht hi hz hsize hby hzs hc v l.length xs' hx' ⟨g, 0, none⟩ 1 1 ys (by omega) (fun j u hj => by rw [own_addr]; exact hcell j u hj) h1
      (by unfold maxLen; omega) (Nat.le_trans (Nat.mul_le_mul (show l.length + 1 ≤ 1000000 by omega) hbl) (by omega)) hbase
    rw [hrun] at hrun2
    cases hrun2
    exact h6
  unfold Oper.wp execOp
  simp only [ho, resolve, invoke, builtin, Sem.run_bind, Sem.run_pure, Result.andThen_ok, List.map_toArray, List.map_cons, List.map_nil, hs, hx, hrun]
  exact h v' w' hnew hold hf
end
/-! ### Lines of words -/
theorem own_strs {w : World} {base : Nat} {T : TypeId} {v : Value} {l : List (List UInt8)} (h : w.ownsRow base T 1 v l.length (l.map fun x => Value.string (bs x))) (hx : ∀ x ∈ l, x.length ≤ maxLen) : OwnR cS w base T v l 0 := by
  refine ⟨_, h, ?_, Nat.zero_le _⟩
  clear h
  induction l with
  | nil => rfl
  | cons x r ih => exact ⟨[.string (bs x)], _, rfl, ⟨rfl, hx x (by simp)⟩, ih fun y hy => hx y (by simp [hy])⟩
/-- A row of strings in a block of its own reads as a line, as an element of a row of another type. -/
theorem line_rd {w : World} {g : Nat} {T T' : TypeId} {words : List (List UInt8)} (h : Blk w g T (words.map fun x => Value.string (bs x)).toArray) (hx : ∀ x ∈ words, x.length ≤ maxLen) (hT : T ≠ T') (hl : words.length ≤ maxLen) :
    (cL cS).rd w (Sep w T' w.heap.size) [.slice (some ⟨g, 0, none⟩) words.length words.length] words := by
  refine ⟨some ⟨g, 0, none⟩, words.length, rfl, ⟨hl, Nat.le_refl _⟩, fun _ => ⟨g, 0, rfl, ⟨h.lt, fun cs fr he => ?_⟩, fun i x hi => ⟨[.string (bs x)], ⟨rfl, hx x (List.mem_of_getElem? hi)⟩, fun j u hu => ?_⟩⟩⟩
  · have h2 : w.heap[g]? = _ := h
    rw [h2] at he
    simp only [Option.some.injEq, Obj.cells.injEq] at he
    exact hT he.2.1
  · match j, hu with
    | 0, hu =>
      simp only [List.getElem?_cons_zero, Option.some.injEq] at hu
      subst hu
      have e : 0 + i * cS.size + 0 = i := by simp [cS]
      rw [e, h.cell]
      simp [hi]
    | j + 1, hu => simp at hu
section
variable {α : Type} {c : Cod α} {w w' : World} {S : Nat → Prop}
theorem RdS.rest {b off : Nat} {x : α} {l : List α} (h : RdS c w S (some ⟨b, off, none⟩) (x :: l)) : RdS c w S (some ⟨b, off + c.size, none⟩) l := by
  intro hl
  obtain ⟨b', off', h1, h2, h3⟩ := h (by simp)
  simp only [Option.some.injEq, Addr.mk.injEq, and_true] at h1
  obtain ⟨rfl, rfl⟩ := h1
  refine ⟨_, _, rfl, h2, fun i y hy => ?_⟩
  obtain ⟨ys, h4, h5⟩ := h3 (i + 1) y (by simpa using hy)
  refine ⟨ys, h4, fun j u hu => ?_⟩
  have := h5 j u hu
  rw [show off + (i + 1) * c.size + j = off + c.size + i * c.size + j by rw [Nat.succ_mul]; omega] at this
  exact this
/-- The cells of a row, all in one list. -/
theorem RdS.cells : ∀ {l : List α} {b off : Nat}, RdS c w S (some ⟨b, off, none⟩) l → ∃ news, RdC c w S news l ∧ ∀ (j : Nat) (u : Value), news[j]? = some u → w.cell? ⟨b, off + j, none⟩ = some u
  | [], b, off, _ => ⟨[], rfl, fun j u h => by simp at h⟩
  | x :: l, b, off, h => by
    obtain ⟨b', off', h1, h2, h3⟩ := h (by simp)
    simp only [Option.some.injEq, Addr.mk.injEq, and_true] at h1
    obtain ⟨rfl, rfl⟩ := h1
    obtain ⟨ys, h4, h5⟩ := h3 0 x rfl
    obtain ⟨zs, h6, h7⟩ := RdS.cells h.rest
    refine ⟨ys ++ zs, ⟨ys, zs, rfl, h4, h6⟩, fun j u hu => ?_⟩
    have hn := c.len h4
    by_cases hj : j < ys.length
    · rw [List.getElem?_append_left hj] at hu
      have := h5 j u hu
      rw [Nat.zero_mul, Nat.add_zero] at this
      exact this
    · rw [List.getElem?_append_right (by omega), hn] at hu
      have := h7 _ u hu
      rw [show off + c.size + (j - c.size) = off + j by omega] at this
      exact this
theorem RdC.app : ∀ {l m : List α} {xs ys : List Value}, RdC c w S xs l → RdC c w S ys m → RdC c w S (xs ++ ys) (l ++ m)
  | [], m, xs, ys, h, h2 => by simp [RdC] at h; subst h; exact h2
  | a :: l, m, xs, ys, ⟨y, z, h1, h2, h3⟩, h4 => ⟨y, z ++ ys, by rw [h1, List.append_assoc], h2, RdC.app h3 h4⟩
theorem RdC.one (hone : ∀ (ys : List Value) (x : α), c.rd w S ys x → ∀ u ∈ ys, u.oneCell' = true) : ∀ {l : List α} {xs : List Value}, RdC c w S xs l → ∀ u ∈ xs, u.oneCell' = true
  | [], xs, h, u, hu => by simp [RdC] at h; subst h; simp at hu
  | a :: l, xs, ⟨y, z, h1, h2, h3⟩, u, hu => by
    rw [h1] at hu
    rcases List.mem_append.1 hu with hu | hu
    · exact hone y a h2 u hu
    · exact RdC.one hone h3 u hu
end
/-- A slice of the call's own, from block base on, whose elements lead to blocks below base. -/
def LowR {α : Type} (c : Cod α) (w : World) (base : Nat) (e : TypeId) (v : Value) (l : List α) : Prop := ∃ xs, w.ownsRow base e c.size v l.length xs ∧ RdC c w (fun b => b < base) xs l ∧ base ≤ w.heap.size
section
variable {α : Type} {c : Cod α} {w w' : World} {base : Nat} {e : TypeId} {v : Value} {l : List α}
/-- An empty row in a block of its own. -/
theorem LowR.empty (c : Cod α) (w : World) (e : TypeId) : LowR c (w.alloc (.cells #[] e)) w.heap.size e (.slice (some ⟨w.heap.size, 0, none⟩) 0 0) ([] : List α) :=
  ⟨[], ⟨by simp, Or.inr ⟨_, 0, #[], rfl, Nat.le_refl _, heap_alloc_new w _, Nat.le_refl _, Nat.zero_le _, by simp, by simp⟩⟩, rfl, by simp⟩
theorem LowR.reads (h : LowR c w base e v l) : ∃ A cap, v = .slice A l.length cap ∧ (l.length ≤ maxLen ∧ l.length ≤ cap) ∧ RdS c w (Lt w) A l := by
  obtain ⟨xs, h1, h2, h3⟩ := h
  rcases h1.2 with ⟨rfl, h0⟩ | ⟨g, cap, cur, rfl, hb, hg, hcap, hm, htake⟩
  · exact ⟨none, 0, by rw [h0], by omega, fun hl => by omega⟩
  · refine ⟨_, _, rfl, ⟨Nat.le_trans hcap hm, hcap⟩, fun _ => ⟨g, 0, rfl, lt_heap hg, fun i x hx => ?_⟩⟩
    obtain ⟨ys, h4, h5⟩ := h2.get hx
    refine ⟨ys, c.more h4 (fun b hb => Nat.lt_of_lt_of_le hb h3), fun j u hu => ?_⟩
    have h6 := h5 j u hu
    rw [Nat.zero_add, cell_of_row w g _ cur e (0, 0) hg]
    rw [← htake.2, List.getElem?_take] at h6
    split at h6
    · simpa using h6
    · cases h6
end
section
variable {P : Program} {α : Type} {c : Cod α}
theorem run_app_nil (w : World) (base : Nat) (t ty e : TypeId) (i : TypeInfo) (size : Nat) (ht : P.underlying t = some (.slice e)) (hi : P.info? e = some i)
    (v : Value) (n : Nat) (xs : List Value) (hown : w.ownsRow base e size v n xs) (k : Nat) : (Builtin.append_ #[t, t] ty #[v, .slice none 0 k]).run P w = .ok v w := by
  rcases hown.2 with ⟨rfl, rfl⟩ | ⟨g, cap, cur, rfl, _, _, hnc, _⟩
  · simp [Builtin.append_, run_underlying ht, sizeOf, typeInfo, hi, Builtin.lenOf, Builtin.firstCells]
  · simp [Builtin.append_, run_underlying ht, sizeOf, typeInfo, hi, Builtin.lenOf, Builtin.firstCells, hnc, storeCells]
theorem wpList_append_low (w : World) {ops : Array Oper} {rest : List Oper} {o : Oper} {a : Act} {Q : Exit → Act → World → Prop} (hgd : o.guard = none) (s x : Operand) (t : TypeId)
    (ho : o.op = .call { callee := .builtin .append, args := #[s, x], argTypes := #[t, t] })
    (base : Nat) (e : TypeId) (i : TypeInfo) (z : Value) (bytes : Nat) (ht : P.underlying t = some (.slice e)) (hi : P.info? e = some i) (hz : i.zero = some z) (hsize : i.size = c.size) (hby : i.bytes = bytes) (hzs : z.cells.size = c.size) (hc : 0 < c.size)
    (v : Value) (l : List α) (hs : a.eval s = v) (hown : LowR c w base e v l) (A : Option Addr) (k : Nat) (l2 : List α) (hx : a.eval x = .slice A l2.length k) (hr : RdS c w (fun b => b < base) A l2)
    (hone : ∀ (ys : List Value) (x : α), c.rd w (fun b => b < base) ys x → ∀ u ∈ ys, u.oneCell' = true) (hlen : l.length + l2.length ≤ 100000) (hbl : bytes ≤ 1000)
    (h : ∀ v' w', LowR c w' base e v' (l ++ l2) → Below base w w' → wpList P ops Q rest (a.put o.dst v') w') : wpList P ops Q (o :: rest) a w := by
  obtain ⟨xs, h1, h2, hbase⟩ := hown
  cases A with
  | none =>
    have hl2 : l2 = [] := by
      cases l2 with
      | nil => rfl
      | cons y r => obtain ⟨b, off, h3, _⟩ := hr (by simp); cases h3
    subst hl2
    refine wpList_plain hgd fun K hK => ?_
    have hrun := run_app_nil (P := P) w base t o.type e i c.size ht hi v l.length xs h1 k
    unfold Oper.wp execOp
    simp only [List.length_nil] at hx
    simp only [ho, resolve, invoke, builtin, Sem.run_bind, Sem.run_pure, Result.andThen_ok, List.map_toArray, List.map_cons, List.map_nil, hs, hx, hrun]
    exact hK _ _ (h v w (by rw [List.append_nil]; exact ⟨xs, h1, h2, hbase⟩) (Below.refl _ _))
  | some ad =>
    obtain ⟨news, h3, h4⟩ : ∃ news, RdC c w (fun b => b < base) news l2 ∧ ∀ (j : Nat) (u : Value), news[j]? = some u → w.cell? (ad.add j) = some u := by
      cases l2 with
      | nil => exact ⟨[], rfl, fun j u hu => by simp at hu⟩
      | cons y r =>
        obtain ⟨b, off, h5, _⟩ := hr (by simp)
        simp only [Option.some.injEq] at h5
        subst h5
        obtain ⟨news, h6, h7⟩ := hr.cells
        refine ⟨news, h6, fun j u hu => ?_⟩
        have : (⟨b, off, none⟩ : Addr).add j = ⟨b, off + j, none⟩ := by
          unfold Addr.add
          split
          · rename_i h0; subst h0; rfl
          · rfl
        rw [this]
        exact h7 j u hu
    refine wpList_append_own _ hgd s x t ho base e i z c.size bytes ht hi hz hsize hby hzs hc v l.length xs hs h1 ad l2.length k news hx h3.len h4 (h3.one hone)
      (by unfold maxLen; omega) (Nat.le_trans (Nat.mul_le_mul (show l.length + l2.length ≤ 1000000 by omega) hbl) (by omega)) hbase ?_
    intro v' w' h5 h6 _
    have hf := frm_of h1 h6
    have hb : Below base w w' := ⟨hf.os, hf.tape, hf.output, hf.size, fun k hk => hf.low k hk (by omega)⟩
    refine h v' w' ⟨xs ++ news, by rw [List.length_append]; exact h5, ?_, Nat.le_trans hbase hf.size⟩ hb
    exact (h2.app h3).keep fun p hp => cell_same (hb.block _ hp)
end
open Go.Maps (Keyed IsMap)
section
variable {H : Type}
theorem plain_bool_inv {P : Program} {e : TypeId} (he : P.underlying e = some .bool) {v : Value} {z : DataW H × List MemPlace} (h : plainElem P e v = some z) : ∃ b, v = .bool b ∧ z = (.lit (.bool b), []) := by
  unfold plainElem at h
  rw [he] at h
  cases v <;> simp at h
  exact ⟨_, rfl, h.symm⟩
theorem atKey_fold (u z : DataW H) (k : Lit) : ∀ (acc : List Lit) (m : DataW H), IsMap m → (∀ x ∈ acc, WideAt.IsKeyLit x) → (acc.foldl (fun m x => m.put x u) m).atKey k z = if acc.any (fun x => x.sameKey k) then u else m.atKey k z
  | [], m, _, _ => by simp
  | x :: r, m, hm, h => by
    have hx := h x (by simp)
    rw [List.foldl_cons, atKey_fold u z k r (m.put x u) (hm.put x u) (fun y hy => h y (by simp [hy])), List.any_cons]
    by_cases e : k = x
    · subst e
      rw [Maps.atKey_put_same hm hx, WideAt.sameKey_self hx]
      simp
    · rw [Maps.atKey_put_other e, Maps.sameKey_ne (fun e' => e e'.symm)]
      simp
theorem atKey_setOf (u z : DataW H) (k : Lit) (acc : List Lit) (h : ∀ x ∈ acc, WideAt.IsKeyLit x) : (Maps.setOf u acc).atKey k z = if acc.any (fun x => x.sameKey k) then u else z := by
  rw [Maps.setOf, atKey_fold u z k acc _ Maps.isMap_empty h]
  rfl
end
/-- Block b is a map[K]bool that holds true at the keys listed, and no more. -/
def SetW (P : Program) (k e : TypeId) (w : World) (b n : Nat) (ks : List Lit) : Prop := w.ownsMap (H := Unit) P k (plainElem P e) b n (Maps.setOf (.lit (.bool true)) ks) ∧ ∀ x ∈ ks, WideAt.IsKeyLit x
section
variable {P : Program} {k e : TypeId} {w w' : World} {b n : Nat} {ks : List Lit}
theorem SetW.made (w : World) (P : Program) (k e : TypeId) (b : Nat) (hb : b = w.heap.size) : SetW P k e (w.alloc (.map #[] 0)) b 0 [] := by
  subst hb
  exact ⟨World.ownsMap_made _ _ _ _, by simp⟩
theorem SetW.now (h : SetW P k e w b n ks) (hb : Below w.heap.size w w') : SetW P k e w' b n ks :=
  ⟨h.1.kept (row := none) ⟨hb.os, hb.tape, hb.output, hb.size, fun i hi _ => hb.block i hi⟩ (by simp), h.2⟩
theorem SetW.alloc (h : SetW P k e w b n ks) (o : Obj) : SetW P k e (w.alloc o) b n ks := ⟨h.1.alloc o, h.2⟩
theorem SetW.drew (h : SetW P k e w b n ks) : SetW P k e w.drew b n ks := h
theorem SetW.lt (h : SetW P k e w b n ks) : b < w.heap.size := h.1.lt
end
section
variable {P : Program} (w : World) {ops : Array Oper} {rest : List Oper} {o : Oper} {a : Act} {Q : Exit → Act → World → Prop}
theorem wpList_look_set (hg : o.guard = none) (m x : Operand) (t : TypeId) (hop : o.op = Op.lookup t m x false) (k e : TypeId) (K : Keyed P k) (ht : P.underlying t = some (.map k e)) (he : P.underlying e = some .bool) (hz : (zeroValue e).run P w = .ok (.bool false) w)
    (b n : Nat) (ks : List Lit) (hm : a.eval m = .map (some b)) (hown : SetW P k e w b n ks) (key : Value) (kl : Lit) (hx : a.eval x = key) (hkey : keyOf P k key = some kl)
    (hK : wpList P ops Q rest (a.put o.dst (.bool (ks.any fun x => x.sameKey kl))) w) : wpList P ops Q (o :: rest) a w := by
  refine wpList_plain hg fun K' hK' => ?_
  obtain ⟨v, ps, hrun, hv⟩ := hown.1.lookup K ht hz (plainElem_bool he false) hkey
  obtain ⟨c, rfl, hc⟩ := plain_bool_inv he hv
  rw [atKey_setOf _ _ _ _ hown.2] at hc
  have hcc : c = ks.any fun x => x.sameKey kl := by
    cases hh : ks.any fun x => x.sameKey kl <;> rw [hh] at hc <;> simp at hc <;> simp [hc]
  subst hcc
  unfold Oper.wp
  simp only [execOp, hop, hm, hx, Sem.run_bind, hrun, Result.andThen]
  exact hK' _ _ hK
theorem wpList_put_set (hg : o.guard = none) (m x v : Operand) (t : TypeId) (hop : o.op = Op.mapUpdate t m x v) (k e : TypeId) (K : Keyed P k) (ht : P.underlying t = some (.map k e)) (he : P.underlying e = some .bool)
    (b n : Nat) (ks : List Lit) (hm : a.eval m = .map (some b)) (hown : SetW P k e w b n ks) (hn : n < maxLen) (key : Value) (kl : Lit) (hx : a.eval x = key) (hv : a.eval v = .bool true) (hkey : keyOf P k key = some kl)
    (hK : ∀ w', SetW P k e w' b (n + 1) (ks ++ [kl]) → w.grownBy w' (some b) → wpList P ops Q rest (a.put o.dst undef) w') : wpList P ops Q (o :: rest) a w := by
  refine wpList_mapUpdate_own (H := Unit) w hg m x v t hop k e K ht (plainElem P e) b n _ hm hown.1 hn key (.bool true) kl hx hv hkey (.lit (.bool true)) [] (plainElem_bool he true) fun w' h1 h2 => hK w' ⟨?_, ?_⟩ h2
  · rw [Maps.setOf_snoc]; exact h1
  · intro y hy
    rcases List.mem_append.1 hy with hy | hy
    · exact hown.2 y hy
    · simp only [List.mem_singleton] at hy
      subst hy
      exact K.key hkey
end
theorem any_str (l : List (List UInt8)) (s : List UInt8) : (l.map Lit.string).any (fun x => x.sameKey (.string s)) = decide (s ∈ l) := by
  rw [Bool.eq_iff_iff]
  simp only [List.any_eq_true, List.mem_map, decide_eq_true_eq]
  constructor
  · rintro ⟨x, ⟨y, hy, rfl⟩, h⟩
    have := WideAt.sameKey_eq h
    simp at this
    exact this ▸ hy
  · exact fun h => ⟨_, ⟨s, h, rfl⟩, WideAt.sameKey_self trivial⟩
theorem strKey : Keyed Tryz.prog 9 := Maps.string_keyed Tryz.underlying9
theorem zeroBool (w : World) : (zeroValue 4).run Tryz.prog w = .ok (.bool false) w := by kernel_rfl
theorem str_key (l : List UInt8) (h : l.length ≤ maxLen) : keyOf Tryz.prog 9 (.string (bs l)) = some (.string l) := Go.WideMaps.keyOf_string_mk Tryz.underlying9 (by rw [bs_size]; exact h)
theorem infoStrT : (Tryz.prog.info? 9).map (fun i => (i.zero, i.size, i.bytes)) = some (some (.string ByteArray.empty), 1, 16) := by kernel_rfl
theorem wpList_look_setB {P : Program} (w : World) {ops : Array Oper} {rest : List Oper} {o : Oper} {a : Act} {Q : Exit → Act → World → Prop} (hg : o.guard = none) (m x : Operand) (t : TypeId) (hop : o.op = Op.lookup t m x false) (k e : TypeId) (K : Keyed P k) (ht : P.underlying t = some (.map k e)) (he : P.underlying e = some .bool) (hz : (zeroValue e).run P w = .ok (.bool false) w)
    (b n : Nat) (ks : List Lit) (hm : a.eval m = .map (some b)) (hown : SetW P k e w b n ks) (key : Value) (kl : Lit) (hx : a.eval x = key) (hkey : keyOf P k key = some kl) (c : Bool) (hc : (ks.any fun x => x.sameKey kl) = c)
    (hK : wpList P ops Q rest (a.put o.dst (.bool c)) w) : wpList P ops Q (o :: rest) a w := by
  subst hc
  exact wpList_look_set w hg m x t hop k e K ht he hz b n ks hm hown key kl hx hkey hK
theorem nodup_take {α : Type} {l : List α} {k : Nat} (h : k < l.length) (hn : (l.take k).Nodup) (hx : l[k] ∉ l.take k) : (l.take (k + 1)).Nodup := by
  rw [List.take_succ_eq_append_getElem h, List.nodup_append]
  exact ⟨hn, by simp, fun a ha b hb => by simp only [List.mem_singleton] at hb; subst hb; exact fun e => hx (e ▸ ha)⟩
theorem not_nodup {α : Type} {l : List α} {k : Nat} (h : k < l.length) (hx : l[k] ∈ l.take k) : ¬ l.Nodup := by
  intro hn
  obtain ⟨i, hi, he⟩ := List.mem_iff_getElem.1 hx
  simp only [List.getElem_take] at he
  rw [List.length_take] at hi
  exact List.pairwise_iff_getElem.1 hn i k (by omega) h (by omega) he
theorem infoStrsT : (Tryz.prog.info? 46).map (fun i => (i.zero, i.size, i.bytes)) = some (some (.slice none 0 0), 1, 24) := by kernel_rfl
theorem map_take {α β : Type} {l : List α} {k : Nat} (f : α → β) (h : k < l.length) : (l.take (k + 1)).map f = (l.take k).map f ++ [f l[k]] := by
  rw [List.take_succ_eq_append_getElem h, List.map_append]; rfl
theorem rds_ints {w : World} {g : Nat} {T : TypeId} {ns : List Int} (h : Blk w g T (ns.map (Value.int .i64)).toArray) (hn : ∀ n ∈ ns, I64n n) : RdS cI w (Lt w) (some ⟨g, 0, none⟩) ns := by
  refine fun _ => ⟨g, 0, rfl, h.lt, fun i x hi => ⟨[.int .i64 x], ⟨rfl, hn x (List.mem_of_getElem? hi)⟩, fun j u hu => ?_⟩⟩
  match j, hu with
  | 0, hu =>
    simp only [List.getElem?_cons_zero, Option.some.injEq] at hu
    subst hu
    have e : 0 + i * cI.size + 0 = i := by simp [cI]
    rw [e, h.cell]
    simp [hi]
  | j + 1, hu => simp at hu
theorem cnt_le : ∀ (ls : Lns) (b : Nat), (∀ x ∈ ls, x.length ≤ b) → cnt ls ≤ ls.length * b
  | [], _, _ => by simp [cnt]
  | x :: r, b, h => by
    have ih := cnt_le r b fun y hy => h y (by simp [hy])
    have hx := h x (by simp)
    unfold cnt at ih ⊢
    simp only [List.map_cons, List.sum_cons, List.length_cons, Nat.add_mul]
    omega
theorem joinLC {ls : Lns} {t : List UInt8} {x : Int} (h : joinF ls = (t, x)) (A : Option Addr) (cap : Nat) (w : World) (hr : RdS (cL cS) w (Lt w) A ls) (hl : ls.length ≤ 100000000) (hcn : cnt ls ≤ 100000000) :
    Calls Tryz.prog 18 #[.slice A ls.length cap] w fun e w' => e = .returned (.tuple #[.string (bs t), .int .i64 x]) ∧ Below w.heap.size w w' := by
  have := join_prog ls A cap w hr hl hcn
  rw [h] at this
  exact this
/-- A row of words of the call's own. -/
def RowP (w : World) (ws : List (List UInt8)) (e : Ending) (w' : World) : Prop := ∃ A c, e = .returned (.slice A ws.length c) ∧ OwnR cS w' w.heap.size 9 (.slice A ws.length c) ws 0 ∧ Below w.heap.size w w'
theorem OwnR.lower {α : Type} {c : Cod α} {w : World} {base base' B : Nat} {e : TypeId} {v : Value} {l : List α} (h : OwnR c w base' e v l B) (hb : base ≤ base') : OwnR c w base e v l B := by
  obtain ⟨xs, h1, h2, h3⟩ := h
  exact ⟨xs, own_lower h1 hb, h2, h3⟩
section
variable {P : Program} {α : Type} {c : Cod α}
end
theorem all_no2 {α : Type} {p : α → Bool} {l : List α} {k : Nat} (hk : k < l.length) (h : p l[k] = false) : l.all p = false := by
  rw [Bool.eq_false_iff]
  intro ha
  rw [List.all_eq_true] at ha
  have := ha _ (List.getElem_mem hk)
  rw [h] at this
  cases this
theorem all_take2 {α : Type} {p : α → Bool} {l : List α} {k : Nat} (hk : k < l.length) (h : (l.take k).all p = true) (h2 : p l[k] = true) : (l.take (k + 1)).all p = true := by
  rw [List.take_succ_eq_append_getElem hk, List.all_append, h]
  simp [h2]
theorem all_end2 {α : Type} {p : α → Bool} {l : List α} {k : Nat} (hk : ¬ k < l.length) (h : (l.take k).all p = true) : l.all p = true := by rwa [List.take_of_length_le (by omega)] at h
theorem lines_few : ∀ (m : Lns), m.length ≤ (textOf m).length
  | [] => by simp [textOf]
  | x :: r => by
    have ih := lines_few r
    unfold textOf at ih ⊢
    simp only [List.map_cons, List.flatten_cons, List.length_append, List.length_cons, lineT, List.length_nil]
    omega
theorem OwnR.reads_hi {α : Type} {c : Cod α} {w : World} {base : Nat} {e : TypeId} {v : Value} {l : List α} (h : OwnR c w base e v l 0) : ∃ A cap, v = .slice A l.length cap ∧ (l.length ≤ maxLen ∧ l.length ≤ cap) ∧ RdS c w (fun b => base ≤ b ∧ b < w.heap.size) A l :=
  h.rds (fun b cs hb hg => ⟨hg, lt_heap hb⟩) (fun b hb => absurd hb.1 (Nat.not_lt_zero _))
theorem lnC {s : List UInt8} {r : Lns × Nat × Int} (h : linesF s = r) (w : World) (E : Env w) (hs : s.length ≤ maxLen) : Calls Tryz.prog 17 #[.string (bs s)] w (LinesPost w r) := h ▸ lines_any s w E hs
theorem elL {w : World} {S : Nat → Prop} {A : Option Addr} {ls : Lns} (h : RdS (cL cS) w S A ls) {k : Nat} (hk : k < ls.length) : ∃ b off A' cap', A = some ⟨b, off, none⟩ ∧ w.cell? ⟨b, off + k, none⟩ = some (.slice A' ls[k].length cap') ∧ (ls[k].length ≤ maxLen ∧ ls[k].length ≤ cap') ∧ RdS cS w S A' ls[k] := by
  obtain ⟨b, off, h1, h2⟩ := h.pick rfl
  obtain ⟨u, h3, h4⟩ := h2 k _ (List.getElem?_eq_getElem hk)
  obtain ⟨A', cap', rfl, h5, h6⟩ := cLS_cell2 h3
  exact ⟨b, off, A', cap', (h1 (by omega)).1, h4, h5, h6⟩
theorem intP_i64 (s : List UInt8) : I64n (intF s).1 := by
  unfold intF
  dsimp only []
  repeat' split
  all_goals (unfold I64n; omega)
theorem RdS.low {α : Type} {c : Cod α} {w w' : World} {g : Nat} {A : Option Addr} {l : List α} (h : RdS c w (fun k => k < g) A l) (hb : Below g w w') : RdS c w' (fun k => k < g) A l := h.keep fun _ hp => hb.cell hp
theorem intPC {s : List UInt8} {n x : Int} (h : intF s = (n, x)) (w : World) (E : EnvR w) (hs : s.length ≤ 281474976710656) : Calls Tryz.prog 107 #[.string (bs s)] w fun e w' => e = .returned (.tuple #[.int .i64 n, .int .i64 x]) ∧ Below w.heap.size w w' := by
  have := int_any s w E hs
  rw [h] at this
  exact this
theorem slice1 (b off m cap : Nat) (hc : m + 1 ≤ cap) (W : World) : (Instr.slice 46 (.slice (some ⟨b, off, none⟩) (m + 1) cap) (some (.int .i64 1)) none none).run Tryz.prog W = .ok (.slice (if cap = 1 then some ⟨b, off, none⟩ else some ⟨b, off + 1, none⟩) m (cap - 1)) W := by
  have he : Tryz.prog.elem 46 = 9 := by kernel_rfl
  rw [run_slice_l W _ _ _ _ (by rw [he]; exact Tryz.underlying46) _ _ (by omega) (by omega)]
  by_cases h1 : cap = 1
  · subst h1
    simp [go_sem, sliced, he]
  · rw [if_neg h1]
    simp [go_sem, sliced, he, h1]
theorem RdS.first {w : World} {S : Nat → Prop} {b off : Nat} {x : List UInt8} {l : List (List UInt8)} (h : RdS cS w S (some ⟨b, off, none⟩) (x :: l)) : S b ∧ x.length ≤ maxLen ∧ w.cell? ⟨b, off, none⟩ = some (.string (bs x)) := by
  obtain ⟨b', off', h1, h2, h3, h4⟩ := h.elS (i := 0) (by simp)
  simp only [Option.some.injEq, Addr.mk.injEq, and_true] at h1
  obtain ⟨rfl, rfl⟩ := h1
  exact ⟨h2, h3, h4⟩
def True1 (w : World) (e : Ending) (w' : World) : Prop := e = .returned (.bool true) ∧ Below w.heap.size w w'
theorem wlen_ge : ∀ ws : List (List UInt8), ws.length ≤ wlen ws
  | [] => by simp [wlen]
  | w :: r => by
    have ih := wlen_ge r
    simp only [wlen, List.map_cons, List.sum_cons, List.length_cons] at ih ⊢
    omega
theorem cnt_text : ∀ (m : Lns), m.all goodL = true → cnt m ≤ (textOf m).length
  | [], _ => by simp [cnt]
  | x :: r, h => by
    rw [List.all_cons, Bool.and_eq_true] at h
    have ih := cnt_text r h.2
    have h1 := (goodL_iff.1 h.1).1
    have h2 := lineP_len x h1
    have h3 := wlen_ge x
    unfold textOf at ih ⊢
    simp only [List.map_cons, List.flatten_cons, List.length_append]
    have : cnt (x :: r) = x.length + cnt r := by simp [cnt]
    omega
theorem RdS.take {α : Type} {c : Cod α} {w : World} {S : Nat → Prop} {A : Option Addr} {l : List α} (h : RdS c w S A l) (k : Nat) : RdS c w S A (l.take k) := by
  intro hl
  obtain ⟨b, off, h1, h2, h3⟩ := h (by rw [List.length_take] at hl; omega)
  exact ⟨b, off, h1, h2, fun i x hx => h3 i x (by
    rw [List.getElem?_take] at hx
    split at hx
    · exact hx
    · cases hx)⟩
end Go.Proofs.YtlblfblkallnhaaGreatDoor
