/- The arguments of the journal's laws opened: a slice of texts, a change. -/
import Derived.Test.YtnckainiphlndaaDoorJnChainC
namespace Go.Proofs.YtnckainiphlndaaDoor
set_option linter.unusedVariables false
set_option linter.unusedSimpArgs false
open Go.RowKit
def cCh : Cod Chg where
  size := 5
  rd := fun _ _ cs x => cs = chgV x ∧ chgO x
  fit := fun x => x.text.length ≤ 140737488351232
  len := fun h => by rw [h.1]; rfl
  keep := fun h _ => h
  more := fun h _ => h
theorem opens_change : Opens Tryd.prog 34 cCh := by
  refine opens_to (c := cP cI (cP cI (cP cI (cP cS (cP cU cN))))) (opens_R Tryd.underlying34 (by kernel_rfl) (fields_cons (by rfl) (opens_I Tryd.underlying3 (by kernel_rfl)) (fields_cons (by rfl) (opens_I Tryd.underlying3 (by kernel_rfl)) (fields_cons (by rfl) (opens_I Tryd.underlying3 (by kernel_rfl)) (fields_cons (by rfl) (opens_S Tryd.underlying9 (by kernel_rfl)) (fields_cons (by rfl) (opens_U Tryd.underlying32 (by kernel_rfl)) fields_nil)))))) rfl ?_
  rintro w B cs ⟨a, b, c, d, e, _⟩ ⟨_, _, rfl, ⟨rfl, ha⟩, _, _, rfl, ⟨rfl, hb⟩, _, _, rfl, ⟨rfl, hc⟩, _, _, rfl, ⟨rfl, hd⟩, _, _, rfl, ⟨rfl, he⟩, rfl⟩ ⟨_, _, _, hf, _⟩
  exact ⟨⟨a, b, c, d, e⟩, ⟨rfl, ⟨ha, hb⟩, hc, hd, he⟩, hf⟩
theorem opens_texts : Opens Tryd.prog 31 (cL cS) := opens_L Tryd.underlying31 (by kernel_rfl) (opens_S Tryd.underlying9 (by kernel_rfl)) (by decide) (of_decide_eq_true (by kernel_rfl))
end Go.Proofs.YtnckainiphlndaaDoor
