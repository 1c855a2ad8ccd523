/- An argument that is a value of one field of each kind, opened to its fields. -/
import Derived.Test.YtlpkkcodmoklaaaWireWalksC
import Derived.Lib.SmallJoins
import Derived.OpenShut
import Derived.ChangeSlices
namespace Go.Proofs.Ytlpkkcodmoklaaa
open Go.Joins Go.ChangeShapes Go.WideShapes Go.RowKit Go.Deep
section
variable {H : Type} {enc : TypeId × Value → H} {P : Program} {w : World} {base : Nat} {spare : Nat → Bool} {held : Bool}
theorem open_agg5 {r : Reach} {b0 : Nat} {t : TypeId} {f0 f1 f2 f3 f4 : Field} {v : Value} {d : DataW H} {p : List MemPlace} (hs : P.underlying t = some (.struct #[f0, f1, f2, f3, f4])) (hone : oneCellFields P #[f0, f1, f2, f3, f4] = true) (hC : P.cellsOf t = 5)
    (hv : Value.okWide P w r b0 t v) (h : DataW.Trod enc P w base spare held t v d p) :
    ∃ (v0 v1 v2 v3 v4 : Value) (y0 y1 y2 y3 y4 : DataW H × List MemPlace) (n : Nat), v = .agg #[v0, v1, v2, v3, v4] ∧ d = .agg [y0.1, y1.1, y2.1, y3.1, y4.1] ∧ p = y0.2 ++ (y1.2 ++ (y2.2 ++ (y3.2 ++ y4.2))) ∧
      DataW.trod enc P w base spare held n f0.type [v0] = some y0 ∧ DataW.trod enc P w base spare held n f1.type [v1] = some y1 ∧ DataW.trod enc P w base spare held n f2.type [v2] = some y2 ∧ DataW.trod enc P w base spare held n f3.type [v3] = some y3 ∧ DataW.trod enc P w base spare held n f4.type [v4] = some y4 := by
  obtain ⟨cs, rfl, hsz⟩ := okWide_struct hs hv
  obtain ⟨l⟩ := cs
  match l, hsz.trans hC with
  | [c0, c1, c2, c3, c4], _ =>
    obtain ⟨fuel, hf⟩ := h
    obtain ⟨xs, n, _, hx, _, hlen, hg⟩ := DataW.trod_struct hs hf
    obtain ⟨o0, k0⟩ := hone_of hone 0 f0 rfl
    obtain ⟨o1, k1⟩ := hone_of hone 1 f1 rfl
    obtain ⟨o2, k2⟩ := hone_of hone 2 f2 rfl
    obtain ⟨o3, k3⟩ := hone_of hone 3 f3 rfl
    obtain ⟨o4, k4⟩ := hone_of hone 4 f4 rfl
    match xs, hlen with
    | [y0, y1, y2, y3, y4], _ =>
      simp only [Prod.mk.injEq] at hx
      exact ⟨c0, c1, c2, c3, c4, y0, y1, y2, y3, y4, n, rfl, by simpa using hx.1, by simpa using hx.2, by simpa [Value.cells, o0, k0] using hg 0 f0 rfl, by simpa [Value.cells, o1, k1] using hg 1 f1 rfl, by simpa [Value.cells, o2, k2] using hg 2 f2 rfl, by simpa [Value.cells, o3, k3] using hg 3 f3 rfl, by simpa [Value.cells, o4, k4] using hg 4 f4 rfl⟩

end
theorem bounds_u64' {n : Int} (h : (Lit.int .u64 n).wf = true) : 0 ≤ n ∧ n < 18446744073709551616 := by
  simp [Lit.wf, IntKind.min, IntKind.max, IntKind.signed, IntKind.bits] at h
  omega
/-- A slice of ints that reads: it is a list of 64-bit numbers, nil and empty ones let in. -/
theorem open_list {H : Type} {enc : TypeId × Value → H} {w : World} {fuel : Nat} {cs : List Value} {x : DataW H × List MemPlace}
    (h : DataW.trod enc Try.prog w 0 (fun _ => true) true fuel 41 cs = some x) :
    ∃ (A : Option Addr) (L : List Int) (c : Nat), cs = [.slice A L.length c] ∧ L.length ≤ maxLen ∧ I64 L ∧ Rd w w.heap.size 1 (.slice A L.length c) L.length (cellsI L) := by
  have hu := Try.underlying41
  have he := Try.underlying3
  have hc : Try.prog.cellsOf 3 = 1 := by kernel_rfl
  rcases open_ints hu he hc h with ⟨rfl, rfl⟩ | ⟨a, len, cap, zs, rfl, hb, hl, hm, hz, rfl, hcell, hwf⟩
  · exact ⟨none, [], 0, rfl, by simp [maxLen], (fun n hn => by cases hn), by simp [cellsI], none, 0, rfl, fun h => absurd h (by simp)⟩
  · have hzl : zs.length = cap := by simpa using hz
    have hlen : (zs.take len).length = len := by rw [List.length_take]; omega
    refine ⟨some a, zs.take len, cap, by rw [hlen], by rw [hlen]; omega, fun n hn => bounds_i64 (hwf n (List.mem_of_mem_take hn)), ?_, some a, cap, rfl, fun hp => ?_⟩
    · rw [cellsI_length, Nat.mul_one]
    · rw [hlen] at hp
      have g0 := hcell 0 (by omega)
      obtain ⟨b, off, spot⟩ := a
      have hspot : spot = none := by simpa [Addr.add] using World.cell?_spot g0
      subst hspot
      refine ⟨b, off, rfl, ?_, fun j u hu => ?_⟩
      · have hk := g0
        simp only [Addr.add, if_true] at hk
        unfold World.cell? at hk
        by_cases hb' : b < w.heap.size
        · exact hb'
        · rw [Array.getElem?_eq_none (Nat.le_of_not_lt hb')] at hk
          cases hk
      · have hj : j < len := by
          have := (List.getElem?_eq_some_iff.1 hu).1
          rw [cellsI_length, hlen] at this
          exact this
        have hg := hcell j (by omega)
        have e : (⟨b, off, none⟩ : Addr).add j = ⟨b, off + j, none⟩ := by
          unfold Addr.add
          split
          · rename_i h0; subst h0; rfl
          · rfl
        rw [e] at hg
        rw [hg]
        have hu' : (cellsI (zs.take len))[j]? = some (.int .i64 (zs.getD j 0)) := by
          unfold cellsI
          rw [List.getElem?_map, List.getElem?_take_of_lt hj]
          have : j < zs.length := by omega
          simp [this]
        rw [hu'] at hu
        exact hu
set_option maxRecDepth 100000 in
/-- The argument of the laws on values: its five fields. -/
theorem open_value {H : Type} {enc : TypeId × Value → H} {w : World} {b0 : Nat} {v : Value} {d : DataW H} {p : List MemPlace}
    (hv : Value.okWide Try.prog w .any b0 48 v) (h : DataW.Trod enc Try.prog w 0 (fun _ => true) true 48 v d p) :
    ∃ (u : Nat) (n : Int) (b : Bool) (s : List UInt8) (A : Option Addr) (L : List Int) (c : Nat), v = .agg #[.int .u64 u, .int .i64 n, .bool b, .string (bs s), .slice A L.length c] ∧
      u < 18446744073709551616 ∧ (-9223372036854775808 ≤ n ∧ n ≤ 9223372036854775807) ∧ s.length ≤ maxLen ∧ L.length ≤ maxLen ∧ I64 L ∧ Rd w w.heap.size 1 (.slice A L.length c) L.length (cellsI L) := by
  obtain ⟨v0, v1, v2, v3, v4, y0, y1, y2, y3, y4, m, rfl, rfl, rfl, h0, h1, h2, h3, h4⟩ := open_agg5 Try.underlying48 (by kernel_rfl) (by kernel_rfl) hv h
  obtain ⟨u, e0, _, w0⟩ := DataW.trod_int Try.underlying33 h0
  obtain ⟨n, e1, _, w1⟩ := DataW.trod_int Try.underlying3 h1
  obtain ⟨b, e2, _⟩ := DataW.trod_bool Try.underlying4 h2
  obtain ⟨s, e3, _, w3⟩ := DataW.trod_string Try.underlying9 h3
  obtain ⟨A, L, c, e4, hL, hI, hR⟩ := open_list h4
  obtain ⟨l, rfl⟩ := bs_of s
  obtain ⟨k, rfl⟩ := Int.eq_ofNat_of_zero_le (bounds_u64' w0).1
  simp only [List.cons.injEq, and_true] at e0 e1 e2 e3 e4
  subst e0 e1 e2 e3 e4
  rw [bs_size] at w3
  exact ⟨k, n, b, l, A, L, c, rfl, by have := (bounds_u64' w0).2; omega, bounds_i64 w1, w3, hL, hI, hR⟩
end Go.Proofs.Ytlpkkcodmoklaaa
