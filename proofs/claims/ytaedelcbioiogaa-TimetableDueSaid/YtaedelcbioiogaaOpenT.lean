/- Arguments of the laws of chapter 48, opened to plain data. -/
import Derived.Test.YtaedelcbioiogaaTtCod
namespace Go.Proofs.Ytaedelcbioiogaa
set_option linter.unusedVariables false
set_option linter.unusedSimpArgs false
open Go.Joins Go.ChangeShapes Go.WideShapes Go.RowKit
theorem opens_trips : Opens Try.prog 26 (cL cTrp) := opens_L Try.underlying26 (by kernel_rfl) opens_trp (by decide)
theorem opens_ints : Opens Try.prog 23 (cL cI) := opens_L Try.underlying23 (by kernel_rfl) (opens_I Try.underlying3 (by kernel_rfl)) (by decide)
theorem opens_rows : Opens Try.prog 42 (cL (cL cI)) := opens_L Try.underlying42 (by kernel_rfl) opens_ints (by decide)
theorem opens_routes : Opens Try.prog 22 (cL cRte) := opens_L Try.underlying22 (by kernel_rfl) opens_rte (by decide)
set_option maxRecDepth 100000 in
theorem open_tbl {H : Type} {enc : TypeId × Value → H} {w : World} {r : Reach} {b0 : Nat} {v : Value} {d : DataW H} {p : List MemPlace} (hv : Value.okWide Try.prog w r b0 25 v) (h : DataW.Trod enc Try.prog w 0 (fun _ => true) true 25 v d p) :
    ∃ (R : List Rte) (A : Option Addr) (c : Nat) (y z : Option Addr × Nat × Nat) (s g : Int), v = .agg #[.slice A R.length c, .slice y.1 y.2.1 y.2.2, .slice z.1 z.2.1 z.2.2, .int .i64 s, .int .i64 g] ∧ R.length ≤ maxLen ∧ RdS cRte w w.heap.size A R := by
  have ho : Opens Try.prog 25 (cP (cL cRte) (cP cSl (cP cSl (cP cI (cP cI cN))))) := opens_R Try.underlying25 (by kernel_rfl) (fields_cons (by rfl) opens_routes (fields_cons (by rfl) (opens_Sl Try.underlying23 (by kernel_rfl)) (fields_cons (by rfl) (opens_Sl Try.underlying23 (by kernel_rfl)) (fields_cons (by rfl) (opens_I Try.underlying3 (by kernel_rfl)) (fields_cons (by rfl) (opens_I Try.underlying3 (by kernel_rfl)) fields_nil)))))
  obtain ⟨cs, ⟨R, y, z, s, g, _⟩, rfl, hcs⟩ := open_struct Try.underlying25 ho hv h
  obtain ⟨_, _, rfl, ⟨A, c, rfl, h1, h2⟩, _, _, rfl, hy, _, _, rfl, hz, _, _, rfl, ⟨rfl, _⟩, _, _, rfl, ⟨rfl, _⟩, rfl⟩ := hcs
  subst hy
  subst hz
  exact ⟨R, A, c, y, z, s, g, rfl, h1, h2⟩
set_option maxRecDepth 100000 in
theorem open_trn {H : Type} {enc : TypeId × Value → H} {w : World} {r : Reach} {b0 : Nat} {v : Value} {d : DataW H} {p : List MemPlace} (hv : Value.okWide Try.prog w r b0 34 v) (h : DataW.Trod enc Try.prog w 0 (fun _ => true) true 34 v d p) :
    ∃ (x : Int × ByteArray × Int × Int × Int × Int × Int × Int) (sp de : Int), v = .agg #[.int .i64 x.1, .string x.2.1, .int .i64 x.2.2.1, .int .i64 sp, .int .i64 x.2.2.2.1, .int .i64 x.2.2.2.2.1, .int .i64 x.2.2.2.2.2.1, .int .i64 de, .int .i64 x.2.2.2.2.2.2.1, .int .i64 x.2.2.2.2.2.2.2] ∧ I64n sp ∧ I64n de := by
  have i1 := opens_I Try.underlying3 (by kernel_rfl)
  have ho : Opens Try.prog 34 (cP cI (cP cS (cP cI (cP cI (cP cI (cP cI (cP cI (cP cI (cP cI (cP cI cN)))))))))) := opens_R Try.underlying34 (by kernel_rfl) (fields_cons (by rfl) i1 (fields_cons (by rfl) (opens_S Try.underlying9 (by kernel_rfl)) (fields_cons (by rfl) i1 (fields_cons (by rfl) i1 (fields_cons (by rfl) i1 (fields_cons (by rfl) i1 (fields_cons (by rfl) i1 (fields_cons (by rfl) i1 (fields_cons (by rfl) i1 (fields_cons (by rfl) i1 fields_nil))))))))))
  obtain ⟨cs, ⟨a0, a1, a2, a3, a4, a5, a6, a7, a8, a9, _⟩, rfl, hcs⟩ := open_struct Try.underlying34 ho hv h
  obtain ⟨_, _, rfl, ⟨rfl, _⟩, _, _, rfl, ⟨rfl, _⟩, _, _, rfl, ⟨rfl, _⟩, _, _, rfl, ⟨rfl, h3⟩, _, _, rfl, ⟨rfl, _⟩, _, _, rfl, ⟨rfl, _⟩, _, _, rfl, ⟨rfl, _⟩, _, _, rfl, ⟨rfl, h7⟩, _, _, rfl, ⟨rfl, _⟩, _, _, rfl, ⟨rfl, _⟩, rfl⟩ := hcs
  exact ⟨(a0, bs a1, a2, a4, a5, a6, a8, a9), a3, a7, rfl, h3, h7⟩
end Go.Proofs.Ytaedelcbioiogaa
