/- An append that leaves the old slice readable, as a step of a region; lines of words as rows. Over any program. -/
import Derived.Test.YtopoknocfoiiaaaGreatDoorPlKinds
import Derived.Deep.RegionLawGrows
namespace Go.Proofs.YtopoknocfoiiaaaGreatDoor
set_option linter.unusedVariables false
set_option linter.unusedSimpArgs false
open Go.RowKit
theorem own_lower {w : World} {base base' : Nat} {e : TypeId} {size n : Nat} {v : Value} {xs : List Value} (h : w.ownsRow base' e size v n xs) (hb : base ≤ base') : w.ownsRow base e size v n xs := by
  refine ⟨h.1, ?_⟩
  rcases h.2 with h | ⟨g, cap, cur, h1, h2, h3⟩
  · exact Or.inl h
  · exact Or.inr ⟨g, cap, cur, h1, by omega, h3⟩
theorem own_addr {g j : Nat} : (⟨g, 0, none⟩ : Addr).add j = ⟨g, j, none⟩ := by
  unfold Addr.add
  split
  · rename_i h0; subst h0; rfl
  · simp
/-- An append to a row of one's own: the old slice stays what it was. -/
theorem own_append {P : Program} (w : World) (base : Nat) (t ty e : TypeId) (i : TypeInfo) (z : Value) (size bytes : Nat) (ht : P.underlying t = some (.slice e)) (hi : P.info? e = some i) (hz : i.zero = some z)
    (hsize : i.size = size) (hby : i.bytes = bytes) (hzs : z.cells.size = size) (hsz : 0 < size) (v : Value) (n : Nat) (xs : List Value) (hown : w.ownsRow base e size v n xs)
    (a : Addr) (m c : Nat) (news : List Value) (hl : news.length = m * size) (hnews : ∀ j u, news[j]? = some u → w.cell? (a.add j) = some u) (h1 : ∀ u ∈ news, u.oneCell' = true)
    (h63 : n + m ≤ maxLen) (hbytes : (n + m) * bytes ≤ 140737488355328) (hbase : base ≤ w.heap.size) :
    ∃ v' w', (Builtin.append_ #[t, t] ty #[v, .slice (some a) m c]).run P w = .ok v' w' ∧ w'.ownsRow base e size v' (n + m) (xs ++ news) ∧ w.grownBy w' v.ownBlock ∧ w'.ownsRow base e size v n xs := by
  have hw := hown
  rcases hown.2 with ⟨rfl, h0⟩ | ⟨g, cap, cur, rfl, hbg, hg, hnc, hcm, hcs, htake⟩
  · obtain ⟨v', w', h2, h3, h4, _⟩ := run_append_own (P := P) w base t ty e i z size bytes ht hi hz hsize hby hzs hsz _ n xs hw a m c news hl hnews h1 h63 hbytes hbase
    exact ⟨v', w', h2, h3, h4, hw.1, Or.inl ⟨rfl, h0⟩⟩
  · by_cases hfit : n + m ≤ cap
    · obtain ⟨w', h2, h3, h4⟩ := run_append_fits (P := P) w base t ty e i size ht hi hsize g n cap xs hw a m c news hl hnews h1 hfit
      refine ⟨_, w', h2, h3, h4, hw.1, ?_⟩
      rcases h3.2 with ⟨h5, _⟩ | ⟨g', cap', cur', hv, hb', hg', hn', hm', hs', ht'⟩
      · cases h5
      · simp only [Value.slice.injEq, Option.some.injEq, Addr.mk.injEq] at hv
        obtain ⟨⟨rfl, _, _⟩, _, rfl⟩ := hv
        refine Or.inr ⟨g, cap, cur', rfl, hbg, hg', hnc, hcm, hs', ?_⟩
        have hxl : xs.length = n * size := by simpa using hw.1
        have h6 := congrArg (List.take (n * size)) ht'
        rw [List.take_take, ← hxl, List.take_left', Nat.min_eq_left (by rw [hxl]; exact Nat.mul_le_mul_right _ (by omega))] at h6
        · rw [← hxl]; exact h6
        · rfl
    · obtain ⟨v', w', h2, h3, h4⟩ := run_append_arg_grows (P := P) w t ty e i z size bytes ht hi hz hsize hby hzs hsz ⟨g, 0, none⟩ n cap xs (by simpa using hw.1) (fun j u hj => by
        have hjl := (List.getElem?_eq_some_iff.1 hj).1
        have hxl : xs.length = n * size := by simpa using hw.1
        rw [own_addr, World.ownsRow.cellAt hw j (by omega), hj]) a m c news hl hnews (by omega) h63 hbytes
      exact ⟨v', w', h2, own_lower h3 hbase, ⟨h4.os, h4.tape, h4.output, h4.size, fun k hk _ => h4.block k hk (by simp)⟩, hw.kept h4 (Or.inr (by simp [Value.ownBlock]))⟩
section
variable {P : Program} {α : Type} {c : Cod α}
theorem OwnR.turn {w w' : World} {base B : Nat} {e : TypeId} {v : Value} {l : List α} (h : OwnR c w base e v l B) (hf : Frm base e w w') (hown : ∀ xs, w.ownsRow base e c.size v l.length xs → w'.ownsRow base e c.size v l.length xs) : OwnR c w' base e v l B := by
  obtain ⟨xs, h1, h2, h3⟩ := h
  have hs : ∀ b, Sep w e B b → w'.heap[b]? = w.heap[b]? := fun b hb => by
    have hlt : b < w.heap.size := by have := hb.1; omega
    have ho : w.heap[b]? = some w.heap[b] := Array.getElem?_eq_getElem hlt
    rw [hf.obj b _ ho fun cs fr hx => hb.2 cs fr (by rw [ho, hx]), ho]
  exact ⟨xs, hown xs h1, (h2.keep fun p hp => cell_same (hs _ hp)).more fun b hb => ⟨hb.1, fun cs fr hx => hb.2 cs fr (by rw [← hs b hb]; exact hx)⟩, Nat.le_trans h3 hf.size⟩
/-- One more datum is appended, as a step of a region that draws its order: the old slice stays what it was. -/
theorem step_append_r {w : World} {ops : Array Oper} {o : Oper} {a : Act} {K : Act → World → Prop} {Q : Exit → Act → World → Prop} {E : Prop} (hgd : o.guard = none) (s x : Operand) (t : TypeId)
    (ho : o.op = .call { callee := .builtin .append, args := #[s, x], argTypes := #[t, t] })
    (base : Nat) (e : TypeId) (i : TypeInfo) (z : Value) (bytes : Nat) (ht : P.underlying t = some (.slice e)) (hi : P.info? e = some i) (hz : i.zero = some z) (hsize : i.size = c.size) (hby : i.bytes = bytes) (hzs : z.cells.size = c.size) (hc : 0 < c.size)
    (v : Value) (l : List α) (B : Nat) (hs : a.eval s = v) (hown : OwnR c w base e v l B) (ys : List Value) (y : α) (hy : c.rd w (Sep w e w.heap.size) ys y) (h1 : ∀ u ∈ ys, u.oneCell' = true) (g : Nat)
    (hx : a.eval x = .slice (some ⟨g, 0, none⟩) 1 1) (hcell : ∀ j u, ys[j]? = some u → w.cell? ⟨g, j, none⟩ = some u) (hlen : l.length ≤ 100000) (hbl : bytes ≤ 1000) (hbase : base ≤ w.heap.size)
    (h : ∀ v' w', OwnR c w' base e v' (l ++ [y]) w'.heap.size → OwnR c w' base e v l B → Frm base e w w' → K (a.put o.dst v') w') : if Region.wanted o (yielded ops a.tmps) = true then Oper.wp P o a w K Q else E := by
  have hw : Region.wanted o (yielded ops a.tmps) = true := by simp [Region.wanted, hgd]
  rw [if_pos hw]
  have hyl := c.len hy
  have hown0 := hown
  obtain ⟨xs, hown, hrd, hB⟩ := hown.raise (by obtain ⟨_, _, _, h⟩ := hown; exact h) (Nat.le_refl _)
  obtain ⟨v', w', hrun, h2, h3, h4⟩ := own_append (P := P) w base t o.type e i z c.size bytes ht hi hz hsize hby hzs hc v l.length xs hown ⟨g, 0, none⟩ 1 1 ys (by omega) (fun j u hj => by rw [own_addr]; exact hcell j u hj) h1
    (by unfold maxLen; omega) (Nat.le_trans (Nat.mul_le_mul (show l.length + 1 ≤ 1000000 by omega) hbl) (by omega)) hbase
  have hf := frm_of hown h3
  have hs' : ∀ b, Sep w e w.heap.size b → w'.heap[b]? = w.heap[b]? := fun b hb => by
    have hlt : b < w.heap.size := hb.1
    have ho : w.heap[b]? = some w.heap[b] := Array.getElem?_eq_getElem hlt
    rw [hf.obj b _ ho fun cs fr hx => hb.2 cs fr (by rw [ho, hx]), ho]
  have key : RdC c w (Sep w e w.heap.size) (xs ++ ys) (l ++ [y]) := hrd.snoc hy
  have hnew : OwnR c w' base e v' (l ++ [y]) w'.heap.size := ⟨xs ++ ys, by rw [List.length_append]; exact h2, (key.keep fun p hp => cell_same (hs' _ hp)).more fun b hb => ⟨Nat.lt_of_lt_of_le hb.1 hf.size, fun cs fr hx => hb.2 cs fr (by rw [← hs' b hb]; exact hx)⟩, Nat.le_refl _⟩
  have hold : OwnR c w' base e v l B := hown0.turn hf fun xs' hx' => by
    obtain ⟨v2, w2, hrun2, _, _, h6⟩ := own_append (P := P) w base t o.type e i z c.size bytes ht hi hz hsize hby hzs hc v l.length xs' hx' ⟨g, 0, none⟩ 1 1 ys (by omega) (fun j u hj => by rw [own_addr]; exact hcell j u hj) h1
      (by unfold maxLen; omega) (Nat.le_trans (Nat.mul_le_mul (show l.length + 1 ≤ 1000000 by omega) hbl) (by omega)) hbase
    rw [hrun] at hrun2
    cases hrun2
    exact h6
  unfold Oper.wp execOp
  simp only [ho, resolve, invoke, builtin, Sem.run_bind, Sem.run_pure, Result.andThen_ok, List.map_toArray, List.map_cons, List.map_nil, hs, hx, hrun]
  exact h v' w' hnew hold hf
end
/-! ### Lines of words -/
theorem own_strs {w : World} {base : Nat} {T : TypeId} {v : Value} {l : List (List UInt8)} (h : w.ownsRow base T 1 v l.length (l.map fun x => Value.string (bs x))) (hx : ∀ x ∈ l, x.length ≤ maxLen) : OwnR cS w base T v l 0 := by
  refine ⟨_, h, ?_, Nat.zero_le _⟩
  clear h
  induction l with
  | nil => rfl
  | cons x r ih => exact ⟨[.string (bs x)], _, rfl, ⟨rfl, hx x (by simp)⟩, ih fun y hy => hx y (by simp [hy])⟩
/-- A row of strings in a block of its own reads as a line, as an element of a row of another type. -/
theorem line_rd {w : World} {g : Nat} {T T' : TypeId} {words : List (List UInt8)} (h : Blk w g T (words.map fun x => Value.string (bs x)).toArray) (hx : ∀ x ∈ words, x.length ≤ maxLen) (hT : T ≠ T') (hl : words.length ≤ maxLen) :
    (cL cS).rd w (Sep w T' w.heap.size) [.slice (some ⟨g, 0, none⟩) words.length words.length] words := by
  refine ⟨some ⟨g, 0, none⟩, words.length, rfl, ⟨hl, Nat.le_refl _⟩, fun _ => ⟨g, 0, rfl, ⟨h.lt, fun cs fr he => ?_⟩, fun i x hi => ⟨[.string (bs x)], ⟨rfl, hx x (List.mem_of_getElem? hi)⟩, fun j u hu => ?_⟩⟩⟩
  · have h2 : w.heap[g]? = _ := h
    rw [h2] at he
    simp only [Option.some.injEq, Obj.cells.injEq] at he
    exact hT he.2.1
  · match j, hu with
    | 0, hu =>
      simp only [List.getElem?_cons_zero, Option.some.injEq] at hu
      subst hu
      have e : 0 + i * cS.size + 0 = i := by simp [cS]
      rw [e, h.cell]
      simp [hi]
    | j + 1, hu => simp at hu
/-- Strings appended to a full row of strings. -/
theorem step_append_words {P : Program} {ops : Array Oper} {o : Oper} {a : Act} {w : World} {K : Act → World → Prop} {Q : Exit → Act → World → Prop} {E : Prop}
    (hg : o.guard = none) (s x : Operand) (t : TypeId) (hop : o.op = Op.call { callee := Callee.builtin Builtin.append, args := #[s, x], argTypes := #[t, t] })
    (e : TypeId) (i : TypeInfo) (z : Value) (h1 : P.underlying t = some (.slice e)) (h2 : P.info? e = some i) (h3 : i.zero = some z) (h4 : i.size = 1) (h5 : i.bytes = 16) (h6 : z.cells.size = 1)
    (g0 : Nat) (us : List (List UInt8)) (n0 : Nat) (hn0 : n0 = us.length) (hs : a.eval s = .slice (some ⟨g0, 0, none⟩) n0 n0) (hu : Blk w g0 e (us.map fun x => Value.string (bs x)).toArray)
    (A : Option Addr) (n c : Nat) (l : List (List UInt8)) (hn : n = l.length) (hl : us.length + l.length ≤ 1000) (hl0 : 0 < l.length) (hx : a.eval x = .slice A n c) (hr : RdS cS w (Lt w) A l) (hus : ∀ x ∈ us, x.length ≤ maxLen)
    (hK : ∀ v' w', OwnR cS w' w.heap.size e v' (us ++ l) 0 → Below w.heap.size w w' → K (a.put o.dst v') w') :
    if Region.wanted o (yielded ops a.tmps) = true then Oper.wp P o a w K Q else E := by
  subst hn hn0
  obtain ⟨b, off, hA, hc⟩ := hr.pick rfl
  obtain ⟨rfl, _⟩ := hA hl0
  have hls : ∀ x ∈ l, x.length ≤ maxLen := fun x hx => by
    obtain ⟨j, hj⟩ := List.getElem?_of_mem hx
    obtain ⟨_, ⟨_, h7⟩, _⟩ := hc j x hj
    exact h7
  refine step_append_grows hg s x t hop e i z 1 16 h1 h2 h3 h4 h5 h6 (by decide) (some ⟨g0, 0, none⟩) us.length us.length (us.map fun x => Value.string (bs x)) hs (fun h => by cases h) (by simp) ?_ ⟨b, off, none⟩ l.length c (l.map fun y => Value.string (bs y)) hx (by simp) ?_ ?_ (by omega) (by unfold maxLen; omega) (by omega) ?_
  · intro b' hb' j v hv
    obtain rfl := Option.some.inj hb'
    rw [own_addr, hu.cell]
    simpa using hv
  · intro j v hv
    rw [List.getElem?_map, Option.map_eq_some_iff] at hv
    obtain ⟨y, hy, rfl⟩ := hv
    obtain ⟨u, ⟨h7, _⟩, h8⟩ := hc j y hy
    simp only [List.cons.injEq, and_true] at h7
    subst h7
    rw [Addr.add_lit]
    exact h8
  · intro v hv
    obtain ⟨y, _, rfl⟩ := List.mem_map.1 hv
    rfl
  · intro v' w' h hgr
    refine hK v' w' (own_strs (by rw [List.length_append, List.map_append]; exact h) ?_) ((Below.refl _ _).grown hgr (Nat.le_refl _) (fun k hk => by cases hk))
    intro x hx
    rcases List.mem_append.1 hx with hx | hx
    · exact hus x hx
    · exact hls x hx
/-- A guard: the operation is an append. -/
def isAppend (o : Oper) : Bool := match o.op with
  | .call c => (match c.callee with
    | .builtin .append => true
    | _ => false)
  | _ => false
theorem step_at_append {P : Program} {ops : Array Oper} {o : Oper} {a : Act} {w : World} {K : Act → World → Prop} {Q : Exit → Act → World → Prop} {E : Prop} (_ : isAppend o = true)
    (h : if Region.wanted o (yielded ops a.tmps) = true then Oper.wp P o a w K Q else E) : if Region.wanted o (yielded ops a.tmps) = true then Oper.wp P o a w K Q else E := h
def isAppendT (t : TypeId) (o : Oper) : Bool := match o.op with
  | .call c => (match c.callee with
    | .builtin .append => c.argTypes == #[t, t]
    | _ => false)
  | _ => false
theorem step_at_appendT (t : TypeId) {P : Program} {ops : Array Oper} {o : Oper} {a : Act} {w : World} {K : Act → World → Prop} {Q : Exit → Act → World → Prop} {E : Prop} (_ : isAppendT t o = true)
    (h : if Region.wanted o (yielded ops a.tmps) = true then Oper.wp P o a w K Q else E) : if Region.wanted o (yielded ops a.tmps) = true then Oper.wp P o a w K Q else E := h
/-- .. and the new slice's shape. -/
theorem step_append_wordsN {P : Program} {ops : Array Oper} {o : Oper} {a : Act} {w : World} {K : Act → World → Prop} {Q : Exit → Act → World → Prop} {E : Prop}
    (hg : o.guard = none) (s x : Operand) (t : TypeId) (hop : o.op = Op.call { callee := Callee.builtin Builtin.append, args := #[s, x], argTypes := #[t, t] })
    (e : TypeId) (i : TypeInfo) (z : Value) (h1 : P.underlying t = some (.slice e)) (h2 : P.info? e = some i) (h3 : i.zero = some z) (h4 : i.size = 1) (h5 : i.bytes = 16) (h6 : z.cells.size = 1)
    (g0 : Nat) (us : List (List UInt8)) (n0 : Nat) (hn0 : n0 = us.length) (hs : a.eval s = .slice (some ⟨g0, 0, none⟩) n0 n0) (cs : Array Value) (hu : Blk w g0 e cs) (hcs : cs = (us.map fun x => Value.string (bs x)).toArray)
    (A : Option Addr) (n c : Nat) (l : List (List UInt8)) (hn : n = l.length) (hl : us.length + l.length ≤ 1000) (hl0 : 0 < l.length) (hx : a.eval x = .slice A n c) (hr : RdS cS w (Lt w) A l) (hus : ∀ x ∈ us, x.length ≤ maxLen) (N : Nat) (hN : (us ++ l).length = N)
    (hK : ∀ A' c' w', OwnR cS w' w.heap.size e (.slice A' N c') (us ++ l) 0 → Below w.heap.size w w' → K (a.put o.dst (.slice A' N c')) w') :
    if Region.wanted o (yielded ops a.tmps) = true then Oper.wp P o a w K Q else E :=
  step_append_words hg s x t hop e i z h1 h2 h3 h4 h5 h6 g0 us n0 hn0 hs (hcs ▸ hu) A n c l hn hl hl0 hx hr hus fun v' w' h hb => by
    obtain ⟨A', c', rfl⟩ := h.form
    rw [hN] at h ⊢
    exact hK A' c' w' h hb
/-- What a step on a row leaves of the box. -/
theorem Bx.frm {w0 w w' : World} {v : LV} {e : TypeId} (h : Bx w0 w v) (hr : LvR w0 v) (hf : Frm w0.heap.size e w w') (hne : 28 ≠ e) : Bx w0 w' v :=
  have hb := hf.keeps (Nat.le_refl _) h.bel.size h.bel
  ⟨hb, hf.blk h.blk hne, hr.now hb⟩
end Go.Proofs.YtopoknocfoiiaaaGreatDoor
