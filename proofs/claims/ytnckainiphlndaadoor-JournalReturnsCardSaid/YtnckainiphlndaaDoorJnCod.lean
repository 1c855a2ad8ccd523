/- How entries of a journal lie in memory. -/
import Derived.Test.YtnckainiphlndaaDoorWdEnv
import Derived.Test.YtnckainiphlndaaDoorJnPlain
namespace Go.Proofs.YtnckainiphlndaaDoor
set_option linter.unusedVariables false
set_option linter.unusedSimpArgs false
open Go.RowKit
def entV (x : Ent) : List Value := [.int .i64 x.time, .string (bs x.text), .int .u64 (x.sum : Int)]
/-- What a program's entry is. -/
def entO (x : Ent) : Prop := I64n x.time ∧ x.text.length ≤ maxLen ∧ x.sum < 18446744073709551616
def cE : Cod Ent where
  size := 3
  rd := fun _ _ cs x => cs = entV x ∧ entO x
  fit := fun x => x.text.length ≤ 140737488351232
  len := fun h => by rw [h.1]; rfl
  keep := fun h _ => h
  more := fun h _ => h
section
variable {P : Program} {t : TypeId}
/-- A codec from another. -/
theorem opens_to {α β : Type} {c : Cod α} {d : Cod β} (h : Opens P t c) (hs : c.size = d.size) (hr : ∀ (w : World) (S : Nat → Prop) (cs : List Value) (a : α), c.rd w S cs a → c.fit a → ∃ b, d.rd w S cs b ∧ d.fit b) : Opens P t d :=
  ⟨h.size.trans hs, fun hx hf => by obtain ⟨a, ha, hfa⟩ := h.opens hx hf; exact hr _ _ _ _ ha hfa⟩
end
section
variable {α : Type} {c : Cod α} {w : World} {S : Nat → Prop} {A : Option Addr} {l : List α}
/-- One element of a row. -/
theorem RdS.el (h : RdS c w S A l) {i : Nat} (hi : i < l.length) : ∃ b off ys, A = some ⟨b, off, none⟩ ∧ S b ∧ c.rd w S ys l[i] ∧ ∀ (j : Nat) (u : Value), ys[j]? = some u → w.cell? ⟨b, off + i * c.size + j, none⟩ = some u := by
  obtain ⟨b, off, h1, h2, h3⟩ := h (by omega)
  obtain ⟨ys, h4, h5⟩ := h3 i l[i] (List.getElem?_eq_getElem hi)
  exact ⟨b, off, ys, h1, h2, h4, h5⟩
/-- The first so many. -/
theorem RdS.take (h : RdS c w S A l) (k : Nat) : RdS c w S A (l.take k) := by
  intro hl
  rw [List.length_take] at hl
  obtain ⟨b, off, h1, h2, h3⟩ := h (by omega)
  refine ⟨b, off, h1, h2, fun i x hx => h3 i x ?_⟩
  rw [List.getElem?_take] at hx
  split at hx
  · exact hx
  · cases hx
end
theorem ent_at {w : World} {S : Nat → Prop} {A : Option Addr} {l : List Ent} (h : RdS cE w S A l) {i : Nat} (hi : i < l.length) :
    ∃ b off, A = some ⟨b, off, none⟩ ∧ S b ∧ entO l[i] ∧ w.cell? ⟨b, off + i * 3, none⟩ = some (.int .i64 l[i].time) ∧ w.cell? ⟨b, off + i * 3 + 1, none⟩ = some (.string (bs l[i].text)) ∧ w.cell? ⟨b, off + i * 3 + 2, none⟩ = some (.int .u64 (l[i].sum : Int)) := by
  obtain ⟨b, off, ys, h1, h2, ⟨rfl, h3⟩, h4⟩ := h.el hi
  exact ⟨b, off, h1, h2, h3, h4 0 _ rfl, h4 1 _ rfl, h4 2 _ rfl⟩
theorem ent_all {w : World} {S : Nat → Prop} {A : Option Addr} {l : List Ent} (h : RdS cE w S A l) : ∀ x ∈ l, entO x := fun x hx => by
  obtain ⟨i, hi⟩ := List.getElem?_of_mem hx
  obtain ⟨hl, rfl⟩ := List.getElem?_eq_some_iff.1 hi
  obtain ⟨_, _, _, _, h3, _⟩ := ent_at h hl
  exact h3
theorem opens_ent : Opens Tryd.prog 37 cE := by
  refine opens_to (c := cP cI (cP cS (cP cU cN))) (opens_R Tryd.underlying37 (by kernel_rfl) (fields_cons (by rfl) (opens_I Tryd.underlying3 (by kernel_rfl)) (fields_cons (by rfl) (opens_S Tryd.underlying9 (by kernel_rfl)) (fields_cons (by rfl) (opens_U Tryd.underlying32 (by kernel_rfl)) fields_nil)))) rfl ?_
  rintro w B cs ⟨a, b, c, _⟩ ⟨_, _, rfl, ⟨rfl, ha⟩, _, _, rfl, ⟨rfl, hb⟩, _, _, rfl, ⟨rfl, hc⟩, rfl⟩ ⟨_, hf, _⟩
  exact ⟨⟨a, b, c⟩, ⟨rfl, ha, hb, hc⟩, hf⟩
theorem opens_journal : Opens Tryd.prog 22 (cL cE) := opens_L Tryd.underlying22 (by kernel_rfl) opens_ent (by decide) (of_decide_eq_true (by kernel_rfl))
end Go.Proofs.YtnckainiphlndaaDoor
