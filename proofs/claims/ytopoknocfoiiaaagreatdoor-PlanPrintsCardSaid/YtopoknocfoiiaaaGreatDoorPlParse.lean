/- The walk of plan.Parse. -/
import Derived.Test.YtopoknocfoiiaaaGreatDoorPlReadG
namespace Go.Proofs.YtopoknocfoiiaaaGreatDoor
set_option linter.unusedVariables false
set_option linter.unusedSimpArgs false
open Go.RowKit
attribute [local go_sem] bs_size bs_get bs_append bs_extract bs_toList
attribute [-go_sem] run_equalIn_agg
/-! ### Plain -/
theorem par_bad {s : List UInt8} {ls : Lns} {n : Nat} {x : Int} (h : linesF s = (ls, n, x)) (hx : x ≠ 0) : parL s = (zL, n, x) := by
  unfold parL
  rw [h, if_neg hx]
theorem par_empty {s : List UInt8} {n : Nat} (h : linesF s = ([], n, 0)) : parL s = (zL, 1, 4) := by
  unfold parL
  rw [h, if_pos rfl, if_pos rfl]
theorem par_go {s : List UInt8} {ls : Lns} {n : Nat} (h : linesF s = (ls, n, 0)) (hne : ls ≠ []) : parL s = endL (readK zL (-1) 0 ls) := by
  unfold parL
  rw [h, if_pos rfl, if_neg hne]
theorem endL_bad {m : Nat} {x : Int} (hx : x ≠ 0) : endL (zL, m, x) = (zL, m, x) := by unfold endL; rw [if_neg hx]
theorem endL_ok {l : Lay} {m : Nat} (h : chkL l = 0) : endL (l, m, 0) = (l, 0, 0) := by unfold endL; rw [if_pos rfl, if_pos h]
theorem endL_chk {l : Lay} {m : Nat} {c : Int} (h : chkL l = c) (hc : c ≠ 0) : endL (l, m, 0) = (zL, 0, c) := by unfold endL; rw [if_pos rfl, if_neg (by rw [h]; exact hc), h]
theorem lines_few : ∀ (m : Lns), m.length ≤ (textOf m).length
  | [] => by simp [textOf]
  | x :: r => by
    have ih := lines_few r
    unfold textOf at ih ⊢
    simp only [List.map_cons, List.flatten_cons, List.length_append, List.length_cons, lineT, List.length_nil]
    omega
theorem good_bound {m : Lns} (h : m.all goodL = true) : ∀ x ∈ m, x ≠ [] ∧ ∀ w ∈ x, w.length ≤ 40000 := by
  intro x hx
  rw [List.all_eq_true] at h
  obtain ⟨h1, h2⟩ := goodL_iff.1 (h x hx)
  exact ⟨h1, fun w hw => by have := wordB_len (h2 w hw); omega⟩
theorem name_add {l : Lay} {w : List UInt8} {a : List (List UInt8)} {v : List Int} (h : l.name.length ≤ 40000) (ha : ∀ x ∈ a, x.length ≤ 40000) : (addL l w a v).name.length ≤ 40000 := by
  unfold addL
  repeat' split
  all_goals first
    | exact h
    | (simp only
       cases a with
       | nil => simp
       | cons x r => exact ha x (by simp))
theorem name_read {l : Lay} {p : Int} {ln : List (List UInt8)} (h : l.name.length ≤ 40000) (ha : ∀ x ∈ ln, x.length ≤ 40000) : (readL l p ln).1.name.length ≤ 40000 := by
  unfold readL
  repeat' split
  all_goals first
    | exact h
    | exact name_add h fun x hx => ha x (List.mem_of_mem_tail hx)
theorem readL_code (l : Lay) (p : Int) (ln : List (List UInt8)) : (readL l p ln).2.2 = 0 ∨ (readL l p ln).2.2 = 4 ∨ (readL l p ln).2.2 = 9 := by
  unfold readL
  repeat' split
  all_goals simp
/-! ### What lies behind the reader's box -/
theorem OwnR.reads_hi {α : Type} {c : Cod α} {w : World} {base : Nat} {e : TypeId} {v : Value} {l : List α} (h : OwnR c w base e v l 0) : ∃ A cap, v = .slice A l.length cap ∧ (l.length ≤ maxLen ∧ l.length ≤ cap) ∧ RdS c w (fun b => base ≤ b ∧ b < w.heap.size) A l :=
  h.rds (fun b cs hb hg => ⟨hg, lt_heap hb⟩) (fun b hb => absurd hb.1 (Nat.not_lt_zero _))
theorem RW.lv2 {w : World} {g : Nat} {l : Lay} {p : Int} {v1 v2 v3 v4 v5 : Value} (h : RW w g l p v1 v2 v3 v4 v5) (hn : l.name.length ≤ maxLen) : ∃ v : LV, v.l = l ∧ v1 = .slice v.A1 v.l.secs.length v.c1 ∧ v2 = .slice v.A2 v.l.els.length v.c2 ∧ v3 = .slice v.A3 v.l.jts.length v.c3 ∧ v4 = .slice v.A4 v.l.sgs.length v.c4 ∧ v5 = .slice v.A5 v.l.bls.length v.c5 ∧ ∀ w' : World, (∀ b, g + 1 ≤ b → b < w.heap.size → w'.heap[b]? = w.heap[b]?) → w.heap.size ≤ w'.heap.size → LvR w' v := by
  obtain ⟨A1, c1, rfl, m1, r1⟩ := h.r1.reads_hi
  obtain ⟨A2, c2, rfl, m2, r2⟩ := h.r2.reads_hi
  obtain ⟨A3, c3, rfl, m3, r3⟩ := h.r3.reads_hi
  obtain ⟨A4, c4, rfl, m4, r4⟩ := h.r4.reads_hi
  obtain ⟨A5, c5, rfl, m5, r5⟩ := h.r5.reads_hi
  refine ⟨⟨l, A1, A2, A3, A4, A5, c1, c2, c3, c4, c5⟩, rfl, rfl, rfl, rfl, rfl, rfl, fun w' hc hz => ?_⟩
  have k : ∀ p : Addr, (g + 1 ≤ p.block ∧ p.block < w.heap.size) → w'.cell? p = w.cell? p := fun p hp => cell_same (hc p.block hp.1 hp.2)
  have m : ∀ b, (g + 1 ≤ b ∧ b < w.heap.size) → b < w'.heap.size := fun b hb => by omega
  exact ⟨hn, (r1.keep k).more m, (r2.keep k).more m, (r3.keep k).more m, (r4.keep k).more m, (r5.keep k).more m, m1, m2, m3, m4, m5⟩
theorem read_any (w : World) (E : EnvR w) (g : Nat) (l : Lay) (p : Int) (h : RWS w g l p) (hnm : l.name.length ≤ 40000) (ln : List (List UInt8)) (hne : ln ≠ []) (A : Option Addr) (cap : Nat) (hr : RdS cS w (fun k => k < g) A ln) (hcap : ln.length ≤ maxLen ∧ ln.length ≤ cap) (hlen : ∀ x ∈ ln, x.length ≤ 40000) (n : Nat) (hs : SmallL l n) (hn : n ≤ 40000) :
    Calls Tryz.prog 23 #[.pointer (some ⟨g, 0, none⟩), .slice A ln.length cap] w (ReadPost g w (readL l p ln)) := by
  obtain ⟨v1, v2, v3, v4, v5, h⟩ := h
  cases ln with
  | nil => exact absurd rfl hne
  | cons word a =>
    obtain ⟨b, off, rfl, _⟩ := hr.elS (i := 0) (by simp)
    cases hf : fitsB p (word :: a) with
    | false => exact read_fit w g l p v1 v2 v3 v4 v5 h word a b off cap hr hcap hf
    | true =>
      obtain ⟨v, rfl, hv, rfl, rfl, rfl, rfl, rfl⟩ := h.lv (by unfold maxLen; omega)
      exact read_go w E g v p h hv word (hlen _ (by simp)) a (fun x hx => hlen x (by simp [hx])) b off cap hr hcap n hs hn hf
/-! ### The result's box -/
def lvZ : LV := ⟨zL, none, none, none, none, none, 0, 0, 0, 0, 0⟩
theorem lvZ_rd (w : World) : LvR w lvZ := ⟨by simp [lvZ, zL], RdS.nil _ _ _ _, RdS.nil _ _ _ _, RdS.nil _ _ _ _, RdS.nil _ _ _ _, RdS.nil _ _ _ _, by simp [lvZ, zL], by simp [lvZ, zL], by simp [lvZ, zL], by simp [lvZ, zL], by simp [lvZ, zL]⟩
def ParPost (w : World) (r : Lay × Nat × Int) (e : Ending) (w' : World) : Prop := ∃ v : LV, v.l = r.1 ∧ e = .returned (.tuple #[lvA v, .int .i64 r.2.1, .int .i64 r.2.2]) ∧ LvR w' v ∧ Below w.heap.size w w'
theorem parPost_no {w w' : World} {r : Lay × Nat × Int} {n : Nat} {x : Int} {e : Ending} (h : r = (zL, n, x)) (he : e = .returned (.tuple #[lvA lvZ, .int .i64 n, .int .i64 x])) (hb : Below w.heap.size w w') : ParPost w r e w' := by
  subst h
  exact ⟨lvZ, rfl, he, lvZ_rd _, hb⟩
/-- The box of the result, made at the call's beginning. -/
structure ResB (w : World) (r : Nat) (cs : Array Value) (wr : World) : Prop where
  bel : Below w.heap.size w wr
  ge : w.heap.size ≤ r
  blk : Blk wr r 28 cs
section
variable {w wr w' : World} {r : Nat} {cs : Array Value}
theorem ResB.now (h : ResB w r cs wr) (hb : Below wr.heap.size wr w') : ResB w r cs w' := ⟨bel_then h.bel h.bel.size hb, h.ge, h.blk.now hb⟩
theorem ResB.low (h : ResB w r cs wr) {B : Nat} (hB : r < B) (hb : Below B wr w') : ResB w r cs w' := ⟨h.bel.trans (hb.mono (by have := h.ge; omega)), h.ge, h.blk.below hb hB⟩
theorem ResB.set (h : ResB w r cs wr) (i : Nat) (u : Value) : ResB w r (cs.setIfInBounds i u) (wr.setCell ⟨r, i, none⟩ u) := ⟨h.bel.setCell (p := ⟨r, i, none⟩) h.ge u, h.ge, h.blk.set i u⟩
end
def put6 (w : World) (r : Nat) (a b c d e f : Value) : World := (((((w.setCell ⟨r, 0, none⟩ a).setCell ⟨r, 1, none⟩ b).setCell ⟨r, 2, none⟩ c).setCell ⟨r, 3, none⟩ d).setCell ⟨r, 4, none⟩ e).setCell ⟨r, 5, none⟩ f
theorem put6_bel {w wr : World} {r : Nat} {cs : Array Value} (h : ResB w r cs wr) (a b c d e f : Value) : Below w.heap.size w (put6 wr r a b c d e f) := ((((((h.set 0 a).set 1 b).set 2 c).set 3 d).set 4 e).set 5 f).bel
theorem put6_far (w : World) (r : Nat) (a b c d e f : Value) (k : Nat) (hk : k ≠ r) : (put6 w r a b c d e f).heap[k]? = w.heap[k]? := by
  unfold put6
  rw [Below.heap_setCell _ _ _ _ hk, Below.heap_setCell _ _ _ _ hk, Below.heap_setCell _ _ _ _ hk, Below.heap_setCell _ _ _ _ hk, Below.heap_setCell _ _ _ _ hk, Below.heap_setCell _ _ _ _ hk]
theorem put6_size (w : World) (r : Nat) (a b c d e f : Value) : (put6 w r a b c d e f).heap.size = w.heap.size := by simp [put6, World.setCell]
def zCs : Array Value := #[.string { data := #[] }, .slice none 0 0, .slice none 0 0, .slice none 0 0, .slice none 0 0, .slice none 0 0]
end Go.Proofs.YtopoknocfoiiaaaGreatDoor
