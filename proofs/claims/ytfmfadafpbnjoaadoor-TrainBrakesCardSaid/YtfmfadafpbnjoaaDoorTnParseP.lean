/- What the walks of Parse keep: the numbers read so far, in the train's box. -/
import Derived.Test.YtfmfadafpbnjoaaDoorTnPrint
import Derived.Test.YtfmfadafpbnjoaaDoorWdWalksG
import Derived.Deep.RegionLawGrows
namespace Go.Proofs.YtfmfadafpbnjoaaDoor
set_option linter.unusedVariables false
set_option linter.unusedSimpArgs false
open Go.RowKit
attribute [local go_sem] bs_size bs_get bs_append bs_extract bs_toList
def trnP (name : List UInt8) (ns : List Int) : Trn := ⟨ns.getD 0 0, name, ns.getD 1 0, ns.getD 2 0, ns.getD 3 0, ns.getD 4 0, ns.getD 5 0, ns.getD 6 0, ns.getD 7 0, ns.getD 8 0⟩
@[irreducible] def qF (k : Nat) : Nat := if k = 0 then 0 else k + 1
theorem SRow.far {w : World} {T : TypeId} {g cap : Nat} {l : List (List UInt8)} (h : SRow w T g cap l) {b j : Nat} {u : Value} (hg : g ≠ b) : SRow (w.setCell ⟨b, j, none⟩ u) T g cap l := by
  obtain ⟨cur, h1, h2⟩ := h
  exact ⟨cur, h1.far (p := ⟨b, j, none⟩) hg u, h2⟩
theorem qF_lt {k : Nat} (h : k < 9) : qF k < 10 := by unfold qF; split <;> omega
theorem trnV_len (t : Trn) : (trnV t).length = 10 := rfl
theorem trnP_set (name : List UInt8) (ns : List Int) (n : Int) (h : ns.length < 9) : (trnV (trnP name ns)).set (qF ns.length) (.int .i64 n) = trnV (trnP name (ns ++ [n])) := by
  unfold qF
  match ns, h with
  | [], _ => rfl
  | [_], _ => rfl
  | [_, _], _ => rfl
  | [_, _, _], _ => rfl
  | [_, _, _, _], _ => rfl
  | [_, _, _, _, _], _ => rfl
  | [_, _, _, _, _, _], _ => rfl
  | [_, _, _, _, _, _, _], _ => rfl
  | [_, _, _, _, _, _, _, _], _ => rfl
theorem trnP_mk (name : List UInt8) (ns : List Int) (h : ns.length = 9) : trnP name ns = mkT name ns := by
  match ns, h with
  | [_, _, _, _, _, _, _, _, _], _ => rfl
theorem trnP_nil (name : List UInt8) : trnV (trnP name []) = [.int .i64 0, .string (bs name), .int .i64 0, .int .i64 0, .int .i64 0, .int .i64 0, .int .i64 0, .int .i64 0, .int .i64 0, .int .i64 0] := rfl
theorem Blk.trn_set {w : World} {g : Nat} {T : TypeId} {name : List UInt8} {ns : List Int} (h : Blk w g T (trnV (trnP name ns)).toArray) (n : Int) (hl : ns.length < 9) : Blk (w.setCell ⟨g, qF ns.length, none⟩ (.int .i64 n)) g T (trnV (trnP name (ns ++ [n]))).toArray := by
  have := h.set (qF ns.length) (.int .i64 n)
  rw [List.setIfInBounds_toArray, trnP_set name ns n hl] at this
  exact this
theorem Blk.trn_some {w : World} {g : Nat} {T : TypeId} {t : Trn} (h : Blk w g T (trnV t).toArray) {q : Nat} (hq : q < 10) : ∃ u, w.cell? ⟨g, q, none⟩ = some u := by
  rw [h.cell]
  have : q < (trnV t).toArray.size := by simpa [trnV_len] using hq
  exact ⟨_, Array.getElem?_eq_getElem this⟩
/-- The pointers to the fields. -/
def ptrs (g : Nat) : List Value := (List.range 9).map fun k => Value.pointer (some ⟨g, qF k, none⟩)
theorem ptrs_at (g : Nat) {k : Nat} (h : k < 9) : (ptrs g)[k]? = some (.pointer (some ⟨g, qF k, none⟩)) := by
  unfold ptrs
  rw [List.getElem?_map, List.getElem?_range h]
  rfl
theorem ptrs_eq (g : Nat) : ptrs g = [.pointer (some ⟨g, 0, none⟩), .pointer (some ⟨g, 2, none⟩), .pointer (some ⟨g, 3, none⟩), .pointer (some ⟨g, 4, none⟩), .pointer (some ⟨g, 5, none⟩), .pointer (some ⟨g, 6, none⟩), .pointer (some ⟨g, 7, none⟩), .pointer (some ⟨g, 8, none⟩), .pointer (some ⟨g, 9, none⟩)] := by
  unfold ptrs qF
  rfl
/-- The reading of numbers so far. -/
def NR (ws : List (List UInt8)) (k : Nat) (ns : List Int) : Prop := ns.length = k ∧ listK [] ws = listK ns (ws.drop k)
theorem NR_step {ws : List (List UInt8)} {k : Nat} {ns : List Int} {n : Int} (h : NR ws k ns) (hk : k < ws.length) (hi : intF ws[k] = (n, 0)) : NR ws (k + 1) (ns ++ [n]) := by
  obtain ⟨h1, h2⟩ := h
  refine ⟨by simp [h1], ?_⟩
  rw [h2, List.drop_eq_getElem_cons hk, listK, hi]
  simp
theorem NR_bad {ws : List (List UInt8)} {k : Nat} {ns : List Int} {n x : Int} (h : NR ws k ns) (hk : k < ws.length) (hi : intF ws[k] = (n, x)) (hx : x ≠ 0) : listK [] ws = ([], x) := by
  obtain ⟨h1, h2⟩ := h
  rw [h2, List.drop_eq_getElem_cons hk, listK, hi]
  simp [hx]
theorem NR_end {ws : List (List UInt8)} {k : Nat} {ns : List Int} (h : NR ws k ns) (hk : ¬ k < ws.length) : listK [] ws = (ns, 0) := by
  obtain ⟨h1, h2⟩ := h
  rw [h2, List.drop_of_length_le (by omega), listK]
theorem par_code {s : List UInt8} {m : Lns} {n : Nat} {x : Int} (h : linesF (s ++ [10]) = (m, n, x)) (hx : x ≠ 0) : parT s = (zT, x) := by unfold parT; rw [h, if_neg hx]
theorem par_many {s : List UInt8} {m : Lns} {n : Nat} (h : linesF (s ++ [10]) = (m, n, 0)) (hm : m.length ≠ 1) : parT s = (zT, 4) := by
  unfold parT
  rw [h, if_pos rfl]
  match m, hm with
  | [], _ => rfl
  | [_], hm => simp at hm
  | _ :: _ :: _, _ => rfl
theorem par_line {s : List UInt8} {l : List (List UInt8)} {n : Nat} (h : linesF (s ++ [10]) = ([l], n, 0)) : parT s = lineF l := by unfold parT; rw [h, if_pos rfl]
theorem line_no {l : List (List UInt8)} (h : l.length ≠ 11 ∨ l.head? ≠ some trainW) : lineF l = (zT, 4) := by
  unfold lineF
  rw [if_neg]
  rintro ⟨h1, h2⟩
  rcases h with h | h
  · exact h h1
  · exact h h2
theorem line_fin {l : List (List UInt8)} (h1 : l.length = 11) (h2 : l.head? = some trainW) {r : List Int × Int} (hr : listK [] (l.getD 1 [] :: l.drop 3) = r) : lineF l = finT (l.getD 2 []) r := by unfold lineF; rw [if_pos ⟨h1, h2⟩, hr]
theorem fin_bad (name : List UInt8) {x : Int} (h : x ≠ 0) (l : List Int) : finT name (l, x) = (zT, x) := by unfold finT; rw [if_neg h]
theorem fin_chk {name : List UInt8} {l : List Int} {c : Int} (h : chkF (mkT name l) = c) (hc : c ≠ 0) : finT name (l, 0) = (zT, c) := by unfold finT; rw [if_pos rfl, h, if_neg hc]
theorem fin_ok {name : List UInt8} {l : List Int} (h : chkF (mkT name l) = 0) : finT name (l, 0) = (mkT name l, 0) := by unfold finT; rw [if_pos rfl, if_pos h]
def PTP (w : World) (r : Trn × Int) (e : Ending) (w' : World) : Prop := e = .returned (.tuple #[trnA r.1, .int .i64 r.2]) ∧ Below w.heap.size w w'
theorem ptp_no {w w' : World} {r : Trn × Int} {x : Int} {e : Ending} (h : r = (zT, x)) (he : e = .returned (.tuple #[.agg #[.int .i64 0, .string { data := #[] }, .int .i64 0, .int .i64 0, .int .i64 0, .int .i64 0, .int .i64 0, .int .i64 0, .int .i64 0, .int .i64 0], .int .i64 x])) (hb : Below w.heap.size w w') : PTP w r e w' := by
  subst h
  exact ⟨he, hb⟩
theorem ptp_at {w w' : World} {r : Trn × Int} {t : Trn} {x : Int} {e : Ending} (h : r = (t, x)) (he : e = .returned (.tuple #[.agg #[.int .i64 t.id, .string (bs t.name), .int .i64 t.len, .int .i64 t.spd, .int .i64 t.acc, .int .i64 t.srv, .int .i64 t.emg, .int .i64 t.dly, .int .i64 t.cst, .int .i64 t.rate], .int .i64 x])) (hb : Below w.heap.size w w') : PTP w r e w' := by
  subst h
  exact ⟨he, hb⟩
/-- One string, and a row of strings behind it: a new row. -/
theorem step_append_strs {P : Program} {ops : Array Oper} {o : Oper} {a : Act} {w : World} {K : Act → World → Prop} {Q : Exit → Act → World → Prop} {E : Prop}
    (hg : o.guard = none) (s x : Operand) (t : TypeId) (hop : o.op = Op.call { callee := Callee.builtin Builtin.append, args := #[s, x], argTypes := #[t, t] })
    (e : TypeId) (i : TypeInfo) (z : Value) (h1 : P.underlying t = some (.slice e)) (h2 : P.info? e = some i) (h3 : i.zero = some z) (h4 : i.size = 1) (h5 : i.bytes = 16) (h6 : z.cells.size = 1)
    (g0 : Nat) (u : List UInt8) (hs : a.eval s = .slice (some ⟨g0, 0, none⟩) 1 1) (hu : w.cell? ⟨g0, 0, none⟩ = some (.string (bs u)))
    (b off n c : Nat) (l : List (List UInt8)) (hn : n = l.length) (hl : l.length ≤ 100) (hl0 : 0 < l.length) (hx : a.eval x = .slice (some ⟨b, off, none⟩) n c) (hc : ∀ (j : Nat) (y : List UInt8), l[j]? = some y → w.cell? ⟨b, off + j, none⟩ = some (.string (bs y)))
    (hK : ∀ g cap w', w.heap.size ≤ g → SRow w' e g cap (u :: l) → Below w.heap.size w w' → K (a.put o.dst (.slice (some ⟨g, 0, none⟩) (u :: l).length cap)) w') :
    if Region.wanted o (yielded ops a.tmps) = true then Oper.wp P o a w K Q else E := by
  subst hn
  refine step_append_grows hg s x t hop e i z 1 16 h1 h2 h3 h4 h5 h6 (by decide) (some ⟨g0, 0, none⟩) 1 1 [.string (bs u)] hs (fun h => by cases h) rfl ?_ ⟨b, off, none⟩ l.length c (l.map fun y => Value.string (bs y)) hx (by simp) ?_ ?_ (by omega) (by unfold maxLen; omega) (by omega) ?_
  · intro b' hb' j v hv
    obtain rfl := Option.some.inj hb'
    match j, hv with
    | 0, hv =>
      simp at hv
      subst hv
      exact hu
    | j + 1, hv => simp at hv
  · intro j v hv
    rw [List.getElem?_map, Option.map_eq_some_iff] at hv
    obtain ⟨y, hy, rfl⟩ := hv
    rw [Addr.add_lit]
    exact hc j y hy
  · intro v hv
    obtain ⟨y, _, rfl⟩ := List.mem_map.1 hv
    rfl
  · intro v' w' h hgr
    obtain ⟨g, cap, rfl, hgb, hrow⟩ := SRow.of_own (l := u :: l) (by rw [List.length_cons, Nat.add_comm]; simpa using h) (by simp)
    exact hK g cap w' hgb hrow ((Below.refl _ _).grown hgr (Nat.le_refl _) (fun k hk => by cases hk))
end Go.Proofs.YtfmfadafpbnjoaaDoor
