/- More codecs: data that lie in their cells alone, slices of which the head alone is read; arguments that are slices. -/
import Derived.Test.YtaedelcbioiogaaCod
import Derived.Test.YtaedelcbioiogaaBlk
namespace Go.Proofs.Ytaedelcbioiogaa
set_option linter.unusedVariables false
set_option linter.unusedSimpArgs false
open Go.Joins Go.ChangeShapes Go.WideShapes Go.RowKit
/-- A datum that lies in its cells alone. -/
def cF {α : Type} (n : Nat) (cells : α → List Value) (ok : α → Prop) (h : ∀ a, (cells a).length = n) : Cod α where
  size := n
  rd := fun _ _ cs a => cs = cells a ∧ ok a
  len := fun ⟨e, _⟩ => by rw [e, h]
  keep := fun h _ => h
  more := fun h _ => h
/-- The element of a row. -/
theorem RdS.el {α : Type} {c : Cod α} {w : World} {B : Nat} {A : Option Addr} {l : List α} (h : RdS c w B A l) {i : Nat} (hi : i < l.length) :
    ∃ b off ys, A = some ⟨b, off, none⟩ ∧ b < B ∧ c.rd w B ys l[i] ∧ ∀ (j : Nat) (u : Value), ys[j]? = some u → w.cell? ⟨b, off + i * c.size + j, none⟩ = some u := by
  obtain ⟨b, off, h1, h2, h3⟩ := h (by omega)
  obtain ⟨ys, h5, h6⟩ := h3 i l[i] (List.getElem?_eq_getElem hi)
  exact ⟨b, off, ys, h1, h2, h5, h6⟩
/-- What reads by one codec reads by another. -/
theorem opens_to {α β : Type} {P : Program} {t : TypeId} {c : Cod α} {d : Cod β} (h : Opens P t c) (hs : c.size = d.size) (hc : ∀ w B cs a, c.rd w B cs a → ∃ b, d.rd w B cs b) : Opens P t d :=
  ⟨h.size.trans hs, fun hx => by obtain ⟨a, ha⟩ := h.opens hx; exact hc _ _ _ _ ha⟩
/-- A slice of which nothing is read but its head. -/
def cSl : Cod (Option Addr × Nat × Nat) where
  size := 1
  rd := fun _ _ cs x => cs = [.slice x.1 x.2.1 x.2.2]
  len := fun h => by rw [h]; rfl
  keep := fun h _ => h
  more := fun h _ => h
theorem opens_Sl {P : Program} {t e : TypeId} (ht : P.underlying t = some (.slice e)) (hc : P.cellsOf t = 1) : Opens P t cSl :=
  ⟨hc, fun {H enc w fuel cs x} h => by
    rcases DataW.trod_slice ht h with ⟨rfl, _⟩ | ⟨a, len, cap, elems, rest, n, _, rfl, _⟩
    · exact ⟨(none, 0, 0), rfl⟩
    · exact ⟨(some a, len, cap), rfl⟩⟩
/-- An argument that is a slice. -/
theorem open_sl {α : Type} {P : Program} {t e : TypeId} {c : Cod α} (ht : P.underlying t = some (.slice e)) {H : Type} {enc : TypeId × Value → H} {w : World} {r : Reach} {b0 : Nat} {v : Value} {d : DataW H} {p : List MemPlace} (hc : Opens P t (cL c)) (hv : Value.okWide P w r b0 t v) (h : DataW.Trod enc P w 0 (fun _ => true) true t v d p) :
    ∃ A l cap, v = .slice A l.length cap ∧ l.length ≤ maxLen ∧ RdS c w w.heap.size A l := by
  obtain ⟨a, len, cap, rfl⟩ := okWide_slice ht hv
  obtain ⟨fuel, hf⟩ := h
  obtain ⟨l, A, cap', h1, h2, h3⟩ := hc.opens hf
  have : (Value.slice a len cap) = .slice A l.length cap' := by
    have : ([Value.slice a len cap] : List Value) = [.slice A l.length cap'] := h1
    simpa using this
  exact ⟨A, l, cap', this, h2, h3⟩
/-- An argument that is a slice: its capacity too. -/
theorem open_slc {α : Type} {P : Program} {t e : TypeId} {c : Cod α} (ht : P.underlying t = some (.slice e)) {H : Type} {enc : TypeId × Value → H} {w : World} {r : Reach} {b0 : Nat} {v : Value} {d : DataW H} {p : List MemPlace} (hc : Opens P t (cL c)) (hv : Value.okWide P w r b0 t v) (h : DataW.Trod enc P w 0 (fun _ => true) true t v d p) :
    ∃ A l cap, v = .slice A l.length cap ∧ l.length ≤ maxLen ∧ l.length ≤ cap ∧ cap ≤ maxLen ∧ RdS c w w.heap.size A l := by
  obtain ⟨A, l, cap, rfl, h1, h2⟩ := open_sl ht hc hv h
  obtain ⟨fuel, hf⟩ := h
  refine ⟨A, l, cap, rfl, h1, ?_, ?_, h2⟩
  · rcases DataW.trod_slice ht hf with ⟨hn, _⟩ | ⟨a, len, cap', elems, rest, n, _, hn, _, _, hl, hm, _⟩
    · simp [Value.cells] at hn; first | omega | (obtain ⟨_, e1, e2⟩ := hn; omega) | (obtain ⟨_, _, e2⟩ := hn; subst e2; assumption) | (obtain ⟨_, _, e2⟩ := hn; rw [e2]; decide) | (obtain ⟨_, e1, _⟩ := hn; subst e1; exact Nat.zero_le _)
    · simp [Value.cells] at hn; first | omega | (obtain ⟨_, e1, e2⟩ := hn; omega) | (obtain ⟨_, _, e2⟩ := hn; subst e2; assumption) | (obtain ⟨_, _, e2⟩ := hn; rw [e2]; decide) | (obtain ⟨_, e1, _⟩ := hn; subst e1; exact Nat.zero_le _)
  · rcases DataW.trod_slice ht hf with ⟨hn, _⟩ | ⟨a, len, cap', elems, rest, n, _, hn, _, _, hl, hm, _⟩
    · simp [Value.cells] at hn; first | omega | (obtain ⟨_, e1, e2⟩ := hn; omega) | (obtain ⟨_, _, e2⟩ := hn; subst e2; assumption) | (obtain ⟨_, _, e2⟩ := hn; rw [e2]; decide) | (obtain ⟨_, e1, _⟩ := hn; subst e1; exact Nat.zero_le _)
    · simp [Value.cells] at hn; first | omega | (obtain ⟨_, e1, e2⟩ := hn; omega) | (obtain ⟨_, _, e2⟩ := hn; subst e2; assumption) | (obtain ⟨_, _, e2⟩ := hn; rw [e2]; decide) | (obtain ⟨_, e1, _⟩ := hn; subst e1; exact Nat.zero_le _)
end Go.Proofs.Ytaedelcbioiogaa
