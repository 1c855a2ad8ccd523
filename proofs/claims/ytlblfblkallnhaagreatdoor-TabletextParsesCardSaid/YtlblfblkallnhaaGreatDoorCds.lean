/- How plain data lie in memory: codecs over a set of blocks, and the arguments of a law opened to plain data. Over any program. -/
import Derived.Test.YtlblfblkallnhaaGreatDoorGround
import Derived.OpenShut
import Derived.DataReads
import Derived.ChangeSlices
import Derived.ChangeArms
import Derived.Below
import Derived.Lib.SmallJoins
import Derived.SizedLaws
namespace Go.Proofs.YtlblfblkallnhaaGreatDoor
set_option linter.unusedVariables false
set_option linter.unusedSimpArgs false
open Go.Joins Go.ChangeShapes Go.WideShapes Go.RowKit
/-- The blocks that are there. -/
def Lt (w : World) : Nat → Prop := fun b => b < w.heap.size
/-- How a datum lies in cells: their number, and when cells read as it, everything that it leads to in the blocks of S. -/
structure Cod (α : Type) where
  size : Nat
  rd : World → (Nat → Prop) → List Value → α → Prop
  fit : α → Prop
  len : ∀ {w : World} {S : Nat → Prop} {cs a}, rd w S cs a → cs.length = size
  keep : ∀ {w w' : World} {S : Nat → Prop} {cs a}, rd w S cs a → (∀ p : Addr, S p.block → w'.cell? p = w.cell? p) → rd w' S cs a
  more : ∀ {w : World} {S S' : Nat → Prop} {cs a}, rd w S cs a → (∀ b, S b → S' b) → rd w S' cs a
theorem Cod.now {α : Type} (c : Cod α) {w w' : World} {cs : List Value} {a : α} (h : c.rd w (Lt w) cs a) (hb : Below w.heap.size w w') : c.rd w' (Lt w') cs a := c.more (c.keep h fun _ hp => hb.cell hp) fun _ h => Nat.lt_of_lt_of_le h hb.size
def I64n (n : Int) : Prop := -9223372036854775808 ≤ n ∧ n ≤ 9223372036854775807
def cI : Cod Int where
  size := 1
  rd := fun _ _ cs n => cs = [.int .i64 n] ∧ I64n n
  fit := fun _ => True
  len := fun h => by rw [h.1]; rfl
  keep := fun h _ => h
  more := fun h _ => h
def cS : Cod (List UInt8) where
  size := 1
  rd := fun _ _ cs l => cs = [.string (bs l)] ∧ l.length ≤ maxLen
  fit := fun l => l.length ≤ 140737488351232
  len := fun h => by rw [h.1]; rfl
  keep := fun h _ => h
  more := fun h _ => h
/-- The row of a slice: where it begins, and that each element reads. -/
def RdS {α : Type} (c : Cod α) (w : World) (S : Nat → Prop) (A : Option Addr) (l : List α) : Prop :=
  0 < l.length → ∃ b off, A = some ⟨b, off, none⟩ ∧ S b ∧ ∀ (i : Nat) (x : α), l[i]? = some x → ∃ ys, c.rd w S ys x ∧ ∀ (j : Nat) (u : Value), ys[j]? = some u → w.cell? ⟨b, off + i * c.size + j, none⟩ = some u
theorem RdS.keep {α : Type} {c : Cod α} {w w' : World} {S : Nat → Prop} {A : Option Addr} {l : List α} (h : RdS c w S A l) (hk : ∀ p : Addr, S p.block → w'.cell? p = w.cell? p) : RdS c w' S A l := by
  intro hl
  obtain ⟨b, off, h1, h2, h3⟩ := h hl
  refine ⟨b, off, h1, h2, fun i x hx => ?_⟩
  obtain ⟨ys, h4, h5⟩ := h3 i x hx
  exact ⟨ys, c.keep h4 hk, fun j u hu => (hk _ h2).trans (h5 j u hu)⟩
theorem RdS.more {α : Type} {c : Cod α} {w : World} {S S' : Nat → Prop} {A : Option Addr} {l : List α} (h : RdS c w S A l) (hS : ∀ b, S b → S' b) : RdS c w S' A l := by
  intro hl
  obtain ⟨b, off, h1, h2, h3⟩ := h hl
  refine ⟨b, off, h1, hS _ h2, fun i x hx => ?_⟩
  obtain ⟨ys, h4, h5⟩ := h3 i x hx
  exact ⟨ys, c.more h4 hS, h5⟩
theorem RdS.now {α : Type} {c : Cod α} {w w' : World} {A : Option Addr} {l : List α} (h : RdS c w (Lt w) A l) (hb : Below w.heap.size w w') : RdS c w' (Lt w') A l := (h.keep fun _ hp => hb.cell hp).more fun _ h => Nat.lt_of_lt_of_le h hb.size
theorem RdS.nil {α : Type} (c : Cod α) (w : World) (S : Nat → Prop) (A : Option Addr) : RdS c w S A [] := fun h => absurd h (by simp)
/-- The row's place, once for all its elements of one cell. -/
theorem RdS.pick {α : Type} {c : Cod α} {w : World} {S : Nat → Prop} {A : Option Addr} {l : List α} (h : RdS c w S A l) (hc : c.size = 1) : ∃ b off, (0 < l.length → A = some ⟨b, off, none⟩ ∧ S b) ∧ ∀ (i : Nat) (x : α), l[i]? = some x → ∃ u, c.rd w S [u] x ∧ w.cell? ⟨b, off + i, none⟩ = some u := by
  by_cases hl : 0 < l.length
  · obtain ⟨b, off, h1, h2, h3⟩ := h hl
    refine ⟨b, off, fun _ => ⟨h1, h2⟩, fun i x hx => ?_⟩
    obtain ⟨ys, h4, h5⟩ := h3 i x hx
    have hn := c.len h4
    rw [hc] at hn
    match ys, hn with
    | [u], _ =>
      refine ⟨u, h4, ?_⟩
      have := h5 0 u rfl
      rw [hc, Nat.mul_one] at this
      exact this
  · refine ⟨0, 0, fun h => absurd h hl, fun i x hx => ?_⟩
    have := (List.getElem?_eq_some_iff.1 hx).1
    omega
def cL {α : Type} (c : Cod α) : Cod (List α) where
  size := 1
  rd := fun w S cs l => ∃ A cap, cs = [.slice A l.length cap] ∧ (l.length ≤ maxLen ∧ l.length ≤ cap) ∧ RdS c w S A l
  fit := fun l => l.length ≤ 140737488351232 ∧ ∀ x ∈ l, c.fit x
  len := fun ⟨_, _, h, _⟩ => by rw [h]; rfl
  keep := fun ⟨A, cap, h, hm, hr⟩ hk => ⟨A, cap, h, hm, hr.keep hk⟩
  more := fun ⟨A, cap, h, hm, hr⟩ hB => ⟨A, cap, h, hm, hr.more hB⟩
section
variable {P : Program} {t e : TypeId}
end
end Go.Proofs.YtlblfblkallnhaaGreatDoor
