/- How stops, trips and routes lie in memory. -/
import Derived.Test.YtaedelcbioiogaaTtPlain
import Derived.Test.YtaedelcbioiogaaCodB
import Derived.Test.YtaedelcbioiogaaRows
namespace Go.Proofs.Ytaedelcbioiogaa
set_option linter.unusedVariables false
set_option linter.unusedSimpArgs false
open Go.RowKit
def Stp.cells (s : Stp) : List Value := [.int .i64 s.1, .int .i64 s.2.1, .int .i64 s.2.2.1, .int .i64 s.2.2.2]
def Stp.ok (s : Stp) : Prop := I64n s.1 ∧ I64n s.2.1 ∧ I64n s.2.2.1 ∧ I64n s.2.2.2
def cStp : Cod Stp := cF 4 Stp.cells Stp.ok fun _ => rfl
def cTrp : Cod Trp where
  size := 2
  rd := fun w B cs p => ∃ A c, cs = [.int .i64 p.1, .slice A p.2.length c] ∧ I64n p.1 ∧ p.2.length ≤ maxLen ∧ RdS cStp w B A p.2
  len := fun ⟨_, _, h, _⟩ => by rw [h]; rfl
  keep := fun ⟨A, c, h, h0, h1, h2⟩ hk => ⟨A, c, h, h0, h1, h2.keep hk⟩
  more := fun ⟨A, c, h, h0, h1, h2⟩ hB => ⟨A, c, h, h0, h1, h2.more hB⟩
def Rte.cells (r : Rte) : List Value := [.string r.nm, .int .i64 r.entry, .int .i64 r.exit, .slice r.s3.1 r.s3.2.1 r.s3.2.2, .slice r.s4.1 r.s4.2.1 r.s4.2.2, .slice r.s5.1 r.s5.2.1 r.s5.2.2, .int .i64 r.appr, .int .i64 r.len, .slice r.s8.1 r.s8.2.1 r.s8.2.2, .slice r.s9.1 r.s9.2.1 r.s9.2.2, .slice r.s10.1 r.s10.2.1 r.s10.2.2, .slice r.s11.1 r.s11.2.1 r.s11.2.2, .slice r.s12.1 r.s12.2.1 r.s12.2.2, .slice r.s13.1 r.s13.2.1 r.s13.2.2]
def Rte.ok (r : Rte) : Prop := I64n r.entry ∧ I64n r.exit
def cRte : Cod Rte := cF 14 Rte.cells Rte.ok fun _ => rfl
theorem stp_at {w : World} {B : Nat} {A : Option Addr} {l : List Stp} (h : RdS cStp w B A l) {i : Nat} (hi : i < l.length) :
    ∃ b off, A = some ⟨b, off, none⟩ ∧ b < B ∧ Stp.ok l[i] ∧ w.cell? ⟨b, off + i * 4, none⟩ = some (.int .i64 l[i].1) ∧ w.cell? ⟨b, off + i * 4 + 1, none⟩ = some (.int .i64 l[i].2.1) ∧ w.cell? ⟨b, off + i * 4 + 2, none⟩ = some (.int .i64 l[i].2.2.1) ∧ w.cell? ⟨b, off + i * 4 + 3, none⟩ = some (.int .i64 l[i].2.2.2) := by
  obtain ⟨b, off, ys, h1, h2, ⟨rfl, h3⟩, h4⟩ := h.el hi
  exact ⟨b, off, h1, h2, h3, h4 0 _ rfl, h4 1 _ rfl, h4 2 _ rfl, h4 3 _ rfl⟩
theorem trp_at {w : World} {B : Nat} {A : Option Addr} {l : List Trp} (h : RdS cTrp w B A l) {i : Nat} (hi : i < l.length) :
    ∃ b off A' c, A = some ⟨b, off, none⟩ ∧ b < B ∧ I64n l[i].1 ∧ l[i].2.length ≤ maxLen ∧ RdS cStp w B A' l[i].2 ∧ w.cell? ⟨b, off + i * 2, none⟩ = some (.int .i64 l[i].1) ∧ w.cell? ⟨b, off + i * 2 + 1, none⟩ = some (.slice A' l[i].2.length c) := by
  obtain ⟨b, off, ys, h1, h2, ⟨A', c, rfl, h3, h5, h6⟩, h4⟩ := h.el hi
  exact ⟨b, off, A', c, h1, h2, h3, h5, h6, h4 0 _ rfl, h4 1 _ rfl⟩
theorem ints_at {w : World} {B : Nat} {A : Option Addr} {l : List Int} (h : RdS cI w B A l) {i : Nat} (hi : i < l.length) :
    ∃ b off, A = some ⟨b, off, none⟩ ∧ b < B ∧ I64n l[i] ∧ w.cell? ⟨b, off + i, none⟩ = some (.int .i64 l[i]) := by
  obtain ⟨b, off, ys, h1, h2, ⟨rfl, h3⟩, h4⟩ := h.el hi
  have := h4 0 _ rfl
  exact ⟨b, off, h1, h2, h3, by simpa [cI] using this⟩
theorem rows_at {w : World} {B : Nat} {A : Option Addr} {l : List (List Int)} (h : RdS (cL cI) w B A l) {i : Nat} (hi : i < l.length) :
    ∃ b off A' c, A = some ⟨b, off, none⟩ ∧ b < B ∧ l[i].length ≤ maxLen ∧ RdS cI w B A' l[i] ∧ w.cell? ⟨b, off + i, none⟩ = some (.slice A' l[i].length c) := by
  obtain ⟨b, off, ys, h1, h2, ⟨A', c, rfl, h5, h6⟩, h4⟩ := h.el hi
  have := h4 0 _ rfl
  exact ⟨b, off, A', c, h1, h2, h5, h6, by simpa [cL] using this⟩
theorem rte_at {w : World} {B : Nat} {A : Option Addr} {l : List Rte} (h : RdS cRte w B A l) {i : Nat} (hi : i < l.length) :
    ∃ b off, A = some ⟨b, off, none⟩ ∧ b < B ∧ Rte.ok l[i] ∧ w.cell? ⟨b, off + i * 14, none⟩ = some (.string l[i].nm) ∧ w.cell? ⟨b, off + i * 14 + 1, none⟩ = some (.int .i64 l[i].entry) ∧ w.cell? ⟨b, off + i * 14 + 2, none⟩ = some (.int .i64 l[i].exit) ∧ w.cell? ⟨b, off + i * 14 + 3, none⟩ = some (.slice l[i].s3.1 l[i].s3.2.1 l[i].s3.2.2) ∧ w.cell? ⟨b, off + i * 14 + 4, none⟩ = some (.slice l[i].s4.1 l[i].s4.2.1 l[i].s4.2.2) ∧ w.cell? ⟨b, off + i * 14 + 5, none⟩ = some (.slice l[i].s5.1 l[i].s5.2.1 l[i].s5.2.2) ∧ w.cell? ⟨b, off + i * 14 + 6, none⟩ = some (.int .i64 l[i].appr) ∧ w.cell? ⟨b, off + i * 14 + 7, none⟩ = some (.int .i64 l[i].len) ∧ w.cell? ⟨b, off + i * 14 + 8, none⟩ = some (.slice l[i].s8.1 l[i].s8.2.1 l[i].s8.2.2) ∧ w.cell? ⟨b, off + i * 14 + 9, none⟩ = some (.slice l[i].s9.1 l[i].s9.2.1 l[i].s9.2.2) ∧ w.cell? ⟨b, off + i * 14 + 10, none⟩ = some (.slice l[i].s10.1 l[i].s10.2.1 l[i].s10.2.2) ∧ w.cell? ⟨b, off + i * 14 + 11, none⟩ = some (.slice l[i].s11.1 l[i].s11.2.1 l[i].s11.2.2) ∧ w.cell? ⟨b, off + i * 14 + 12, none⟩ = some (.slice l[i].s12.1 l[i].s12.2.1 l[i].s12.2.2) ∧ w.cell? ⟨b, off + i * 14 + 13, none⟩ = some (.slice l[i].s13.1 l[i].s13.2.1 l[i].s13.2.2) := by
  obtain ⟨b, off, ys, h1, h2, ⟨rfl, h3⟩, h4⟩ := h.el hi
  exact ⟨b, off, h1, h2, h3, h4 0 _ rfl, h4 1 _ rfl, h4 2 _ rfl, h4 3 _ rfl, h4 4 _ rfl, h4 5 _ rfl, h4 6 _ rfl, h4 7 _ rfl, h4 8 _ rfl, h4 9 _ rfl, h4 10 _ rfl, h4 11 _ rfl, h4 12 _ rfl, h4 13 _ rfl⟩
theorem opens_stp : Opens Try.prog 52 cStp := by
  refine opens_to (c := cP cI (cP cI (cP cI (cP cI cN)))) (opens_R Try.underlying52 (by kernel_rfl) (fields_cons (by rfl) (opens_I Try.underlying3 (by kernel_rfl)) (fields_cons (by rfl) (opens_I Try.underlying3 (by kernel_rfl)) (fields_cons (by rfl) (opens_I Try.underlying3 (by kernel_rfl)) (fields_cons (by rfl) (opens_I Try.underlying3 (by kernel_rfl)) fields_nil))))) rfl ?_
  rintro w B cs ⟨a, b, c, d, _⟩ ⟨_, _, rfl, ⟨rfl, ha⟩, _, _, rfl, ⟨rfl, hb⟩, _, _, rfl, ⟨rfl, hc⟩, _, _, rfl, ⟨rfl, hd⟩, rfl⟩
  exact ⟨(a, b, c, d), rfl, ha, hb, hc, hd⟩
theorem opens_trp : Opens Try.prog 50 cTrp := by
  refine opens_to (c := cP cI (cP (cL cStp) cN)) (opens_R Try.underlying50 (by kernel_rfl) (fields_cons (by rfl) (opens_I Try.underlying3 (by kernel_rfl)) (fields_cons (by rfl) (opens_L Try.underlying48 (by kernel_rfl) opens_stp (by decide)) fields_nil))) rfl ?_
  rintro w B cs ⟨a, b, _⟩ ⟨_, _, rfl, ⟨rfl, ha⟩, _, _, rfl, ⟨A, c, rfl, h1, h2⟩, rfl⟩
  exact ⟨(a, b), A, c, rfl, ha, h1, h2⟩
theorem opens_rte : Opens Try.prog 39 cRte := by
  refine opens_to (c := (cP cS (cP cI (cP cI (cP cSl (cP cSl (cP cSl (cP cI (cP cI (cP cSl (cP cSl (cP cSl (cP cSl (cP cSl (cP cSl cN))))))))))))))) (opens_R Try.underlying39 (by kernel_rfl) (fields_cons (by rfl) (opens_S Try.underlying9 (by kernel_rfl)) (fields_cons (by rfl) (opens_I Try.underlying3 (by kernel_rfl)) (fields_cons (by rfl) (opens_I Try.underlying3 (by kernel_rfl)) (fields_cons (by rfl) (opens_Sl Try.underlying35 (by kernel_rfl)) (fields_cons (by rfl) (opens_Sl Try.underlying36 (by kernel_rfl)) (fields_cons (by rfl) (opens_Sl Try.underlying23 (by kernel_rfl)) (fields_cons (by rfl) (opens_I Try.underlying3 (by kernel_rfl)) (fields_cons (by rfl) (opens_I Try.underlying3 (by kernel_rfl)) (fields_cons (by rfl) (opens_Sl Try.underlying35 (by kernel_rfl)) (fields_cons (by rfl) (opens_Sl Try.underlying36 (by kernel_rfl)) (fields_cons (by rfl) (opens_Sl Try.underlying23 (by kernel_rfl)) (fields_cons (by rfl) (opens_Sl Try.underlying36 (by kernel_rfl)) (fields_cons (by rfl) (opens_Sl Try.underlying23 (by kernel_rfl)) (fields_cons (by rfl) (opens_Sl Try.underlying37 (by kernel_rfl)) fields_nil))))))))))))))) rfl ?_
  rintro w B cs ⟨x0, x1, x2, x3, x4, x5, x6, x7, x8, x9, x10, x11, x12, x13, _⟩ ⟨_, _, rfl, ⟨rfl, _⟩, _, _, rfl, ⟨rfl, hx1⟩, _, _, rfl, ⟨rfl, hx2⟩, _, _, rfl, rfl, _, _, rfl, rfl, _, _, rfl, rfl, _, _, rfl, ⟨rfl, hx6⟩, _, _, rfl, ⟨rfl, hx7⟩, _, _, rfl, rfl, _, _, rfl, rfl, _, _, rfl, rfl, _, _, rfl, rfl, _, _, rfl, rfl, _, _, rfl, rfl, rfl⟩
  exact ⟨⟨bs x0, x1, x2, x3, x4, x5, x6, x7, x8, x9, x10, x11, x12, x13⟩, rfl, hx1, hx2⟩
end Go.Proofs.Ytaedelcbioiogaa
