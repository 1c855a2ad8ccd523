/- The arguments of the train's laws opened. -/
import Derived.Test.YtfmfadafpbnjoaaDoorTnWalksE
namespace Go.Proofs.YtfmfadafpbnjoaaDoor
set_option linter.unusedVariables false
set_option linter.unusedSimpArgs false
open Go.RowKit
section
variable {P : Program} {t : TypeId}
/-- A codec from another. -/
theorem opens_to {α β : Type} {c : Cod α} {d : Cod β} (h : Opens P t c) (hs : c.size = d.size) (hr : ∀ (w : World) (S : Nat → Prop) (cs : List Value) (a : α), c.rd w S cs a → c.fit a → ∃ b, d.rd w S cs b ∧ d.fit b) : Opens P t d :=
  ⟨h.size.trans hs, fun hx hf => by obtain ⟨a, ha, hfa⟩ := h.opens hx hf; exact hr _ _ _ _ ha hfa⟩
end
def cT : Cod Trn where
  size := 10
  rd := fun _ _ cs x => cs = trnV x ∧ trnO x
  fit := fun _ => True
  len := fun h => by rw [h.1]; rfl
  keep := fun h _ => h
  more := fun h _ => h
theorem opens_train : Opens Tryd.prog 23 cT := by
  have i := opens_I (P := Tryd.prog) Tryd.underlying3 (by kernel_rfl)
  refine opens_to (c := cP cI (cP cS (cP cI (cP cI (cP cI (cP cI (cP cI (cP cI (cP cI (cP cI cN)))))))))) (opens_R Tryd.underlying23 (by kernel_rfl) (fields_cons (by rfl) i (fields_cons (by rfl) (opens_S Tryd.underlying9 (by kernel_rfl)) (fields_cons (by rfl) i (fields_cons (by rfl) i (fields_cons (by rfl) i (fields_cons (by rfl) i (fields_cons (by rfl) i (fields_cons (by rfl) i (fields_cons (by rfl) i (fields_cons (by rfl) i fields_nil))))))))))) rfl ?_
  rintro w B cs ⟨a, b, c, d, e, f, g, h, j, k, _⟩ ⟨_, _, rfl, ⟨rfl, ha⟩, _, _, rfl, ⟨rfl, hb⟩, _, _, rfl, ⟨rfl, hc⟩, _, _, rfl, ⟨rfl, hd⟩, _, _, rfl, ⟨rfl, he⟩, _, _, rfl, ⟨rfl, hf⟩, _, _, rfl, ⟨rfl, hg⟩, _, _, rfl, ⟨rfl, hh⟩, _, _, rfl, ⟨rfl, hj⟩, _, _, rfl, ⟨rfl, hk⟩, rfl⟩ _
  exact ⟨⟨a, b, c, d, e, f, g, h, j, k⟩, ⟨rfl, ⟨ha, hc, hd, he, hf, hg, hh, hj, hk⟩, hb⟩, trivial⟩
theorem opens_seg : Opens Tryd.prog 39 cG := by
  have i := opens_I (P := Tryd.prog) Tryd.underlying3 (by kernel_rfl)
  refine opens_to (c := cP cI (cP cI (cP cI (cP cI cN)))) (opens_R Tryd.underlying39 (by kernel_rfl) (fields_cons (by rfl) i (fields_cons (by rfl) i (fields_cons (by rfl) i (fields_cons (by rfl) i fields_nil))))) rfl ?_
  rintro w B cs ⟨a, b, c, d, _⟩ ⟨_, _, rfl, ⟨rfl, ha⟩, _, _, rfl, ⟨rfl, hb⟩, _, _, rfl, ⟨rfl, hc⟩, _, _, rfl, ⟨rfl, hd⟩, rfl⟩ _
  exact ⟨⟨a, b, c, d⟩, ⟨rfl, ha, hb, hc, hd⟩, trivial⟩
theorem opens_segs : Opens Tryd.prog 33 (cL cG) := opens_L Tryd.underlying33 (by kernel_rfl) opens_seg (by decide) (of_decide_eq_true (by kernel_rfl))
end Go.Proofs.YtfmfadafpbnjoaaDoor
