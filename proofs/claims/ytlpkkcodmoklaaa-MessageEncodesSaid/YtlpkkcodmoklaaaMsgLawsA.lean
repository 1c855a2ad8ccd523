/- MessageEncodes: for every argument. -/
import Derived.Test.YtlpkkcodmoklaaaMsgAlive
import Derived.Outline
namespace Go.Proofs.Ytlpkkcodmoklaaa
set_option linter.unusedVariables false
set_option linter.unusedSimpArgs false
open Go.RowKit
attribute [local go_sem] bs_size bs_get bs_append bs_extract bs_toList
set_option maxRecDepth 100000 in
set_option maxHeartbeats 4000000 in
theorem messageEncodes_no (m n : Msg) (A : Option Addr) (c : Nat) (A' : Option Addr) (c' : Nat) (B : Option Addr) (d : Nat) (B' : Option Addr) (d' : Nat) (w : World) (om : m.Ok) (hm : RdS cSeg w w.heap.size A m.prof) (hm' : RdS cLnk w w.heap.size A' m.links) (on : n.Ok) (hn : RdS cSeg w w.heap.size B n.prof) (hn' : RdS cLnk w w.heap.size B' n.links) (hf : fewB m = false ∨ (fewB m = true ∧ fewB n = false)) :
    Calls Try.prog 15 #[.agg #[.int .i64 m.kind, .int .i64 m.fro, .int .i64 m.to, .int .i64 m.seq, .int .i64 m.time, .int .i64 m.aseq, .int .i64 m.aend, .slice A m.prof.length c, .slice A' m.links.length c', .int .i64 m.min, .int .i64 m.speed, .int .i64 m.mode, .int .i64 m.acc, .bool m.whole], .agg #[.int .i64 n.kind, .int .i64 n.fro, .int .i64 n.to, .int .i64 n.seq, .int .i64 n.time, .int .i64 n.aseq, .int .i64 n.aend, .slice B n.prof.length d, .slice B' n.links.length d', .int .i64 n.min, .int .i64 n.speed, .int .i64 n.mode, .int .i64 n.acc, .bool n.whole]] w fun e w' => e = .returned (.bool true) ∧ Below w.heap.size w w' := by
  have e63 : maxLen ≤ 9223372036854775807 := by decide
  have lm : m.prof.length ≤ 9223372036854775807 := Nat.le_trans om.prof e63
  have lm' : m.links.length ≤ 9223372036854775807 := Nat.le_trans om.links e63
  have ln : n.prof.length ≤ 9223372036854775807 := Nat.le_trans on.prof e63
  have ln' : n.links.length ≤ 9223372036854775807 := Nat.le_trans on.links e63
  clear e63
  have hI := Inv2.start (c := c) (c' := c') (d := d) (d' := d') hm hm' hn hn'
  clear hm hm' hn hn'
  rcases hf with hf | ⟨hf, hf'⟩
  · have HF := Lib.hid hf
    clear hf
    go_enter Try.func15, Try.ntmps15
    go_wp2_with fail
    refine (few_any m A c A' c' _ lm lm').mono ?_
    rw [HF.out]
    rintro e w1 ⟨rfl, hb⟩
    have hI1 := hI.step hb
    clear hI hb
    go_wp2_with fail
    refine (alive37 _).mono ?_
    rintro e w2 ⟨rfl, hb⟩
    go_wp2_with fail
    go_ret
    exact ⟨rfl, (hI1.step hb).below⟩
  · have HF := Lib.hid hf
    have HF' := Lib.hid hf'
    clear hf hf'
    go_enter Try.func15, Try.ntmps15
    go_wp2_with fail
    refine (few_any m A c A' c' _ lm lm').mono ?_
    rw [HF.out]
    rintro e w1 ⟨rfl, hb⟩
    have hI1 := hI.step hb
    clear hI hb
    have y0 := hI1.box2.cell 0
    have y1 := hI1.box2.cell 1
    have y2 := hI1.box2.cell 2
    have y3 := hI1.box2.cell 3
    have y4 := hI1.box2.cell 4
    have y5 := hI1.box2.cell 5
    have y6 := hI1.box2.cell 6
    have y7 := hI1.box2.cell 7
    have y8 := hI1.box2.cell 8
    have y9 := hI1.box2.cell 9
    have y10 := hI1.box2.cell 10
    have y11 := hI1.box2.cell 11
    have y12 := hI1.box2.cell 12
    have y13 := hI1.box2.cell 13
    simp only [List.getElem?_toArray, List.getElem?_cons_succ, List.getElem?_cons_zero] at y0 y1 y2 y3 y4 y5 y6 y7 y8 y9 y10 y11 y12 y13
    go_wp2_with fail
    refine (few_any n B d B' d' _ ln ln').mono ?_
    rw [HF'.out]
    rintro e w2 ⟨rfl, hb⟩
    have hI2 := hI1.step hb
    clear y0 y1 y2 y3 y4 y5 y6 y7 y8 y9 y10 y11 y12 y13
    clear hI1 hb
    go_wp2_with fail
    refine (alive37 _).mono ?_
    rintro e w3 ⟨rfl, hb⟩
    go_wp2_with fail
    go_ret
    exact ⟨rfl, (hI2.step hb).below⟩
set_option maxRecDepth 100000 in
set_option maxHeartbeats 8000000 in
theorem messageEncodes_few (m n : Msg) (A : Option Addr) (c : Nat) (A' : Option Addr) (c' : Nat) (B : Option Addr) (d : Nat) (B' : Option Addr) (d' : Nat) (w : World) (om : m.Ok) (hm : RdS cSeg w w.heap.size A m.prof) (hm' : RdS cLnk w w.heap.size A' m.links) (on : n.Ok) (hn : RdS cSeg w w.heap.size B n.prof) (hn' : RdS cLnk w w.heap.size B' n.links) (hf : fewB m = true) (hf' : fewB n = true) :
    Calls Try.prog 15 #[.agg #[.int .i64 m.kind, .int .i64 m.fro, .int .i64 m.to, .int .i64 m.seq, .int .i64 m.time, .int .i64 m.aseq, .int .i64 m.aend, .slice A m.prof.length c, .slice A' m.links.length c', .int .i64 m.min, .int .i64 m.speed, .int .i64 m.mode, .int .i64 m.acc, .bool m.whole], .agg #[.int .i64 n.kind, .int .i64 n.fro, .int .i64 n.to, .int .i64 n.seq, .int .i64 n.time, .int .i64 n.aseq, .int .i64 n.aend, .slice B n.prof.length d, .slice B' n.links.length d', .int .i64 n.min, .int .i64 n.speed, .int .i64 n.mode, .int .i64 n.acc, .bool n.whole]] w fun e w' => e = .returned (.bool true) ∧ Below w.heap.size w w' := by
  have e63 : maxLen ≤ 9223372036854775807 := by decide
  have lm : m.prof.length ≤ 9223372036854775807 := Nat.le_trans om.prof e63
  have lm' : m.links.length ≤ 9223372036854775807 := Nat.le_trans om.links e63
  have ln : n.prof.length ≤ 9223372036854775807 := Nat.le_trans on.prof e63
  have ln' : n.links.length ≤ 9223372036854775807 := Nat.le_trans on.links e63
  clear e63
  have hI := Inv2.start (c := c) (c' := c') (d := d) (d' := d') hm hm' hn hn'
  have HF := Lib.hid hf
  have HF' := Lib.hid hf'
  clear hf hf' hm hm' hn hn'
  go_enter Try.func15, Try.ntmps15
  go_wp2_with fail
  refine (few_any m A c A' c' _ lm lm').mono ?_
  rw [HF.out]
  rintro e w1 ⟨rfl, hb⟩
  have hI1 := hI.step hb
  clear hI hb
  have y0 := hI1.box2.cell 0
  have y1 := hI1.box2.cell 1
  have y2 := hI1.box2.cell 2
  have y3 := hI1.box2.cell 3
  have y4 := hI1.box2.cell 4
  have y5 := hI1.box2.cell 5
  have y6 := hI1.box2.cell 6
  have y7 := hI1.box2.cell 7
  have y8 := hI1.box2.cell 8
  have y9 := hI1.box2.cell 9
  have y10 := hI1.box2.cell 10
  have y11 := hI1.box2.cell 11
  have y12 := hI1.box2.cell 12
  have y13 := hI1.box2.cell 13
  simp only [List.getElem?_toArray, List.getElem?_cons_succ, List.getElem?_cons_zero] at y0 y1 y2 y3 y4 y5 y6 y7 y8 y9 y10 y11 y12 y13
  go_wp2_with fail
  refine (few_any n B d B' d' _ ln ln').mono ?_
  rw [HF'.out]
  rintro e w2 ⟨rfl, hb⟩
  have hI2 := hI1.step hb
  clear y0 y1 y2 y3 y4 y5 y6 y7 y8 y9 y10 y11 y12 y13
  clear hI1 hb
  have hS : w2.cell? ⟨w.heap.size, 0, none⟩ = some (.int .i64 m.kind) ∧ w2.cell? ⟨w.heap.size, 1, none⟩ = some (.int .i64 m.fro) ∧ w2.cell? ⟨w.heap.size, 2, none⟩ = some (.int .i64 m.to) ∧ w2.cell? ⟨w.heap.size, 3, none⟩ = some (.int .i64 m.seq) ∧ w2.cell? ⟨w.heap.size, 4, none⟩ = some (.int .i64 m.time) ∧ w2.cell? ⟨w.heap.size, 5, none⟩ = some (.int .i64 m.aseq) ∧ w2.cell? ⟨w.heap.size, 6, none⟩ = some (.int .i64 m.aend) ∧ w2.cell? ⟨w.heap.size, 7, none⟩ = some (.slice A m.prof.length c) ∧ w2.cell? ⟨w.heap.size, 8, none⟩ = some (.slice A' m.links.length c') ∧ w2.cell? ⟨w.heap.size, 9, none⟩ = some (.int .i64 m.min) ∧ w2.cell? ⟨w.heap.size, 10, none⟩ = some (.int .i64 m.speed) ∧ w2.cell? ⟨w.heap.size, 11, none⟩ = some (.int .i64 m.mode) ∧ w2.cell? ⟨w.heap.size, 12, none⟩ = some (.int .i64 m.acc) ∧ w2.cell? ⟨w.heap.size, 13, none⟩ = some (.bool m.whole) ∧ w2.cell? ⟨w.heap.size + 1, 0, none⟩ = some (.int .i64 n.kind) ∧ w2.cell? ⟨w.heap.size + 1, 1, none⟩ = some (.int .i64 n.fro) ∧ w2.cell? ⟨w.heap.size + 1, 2, none⟩ = some (.int .i64 n.to) ∧ w2.cell? ⟨w.heap.size + 1, 3, none⟩ = some (.int .i64 n.seq) ∧ w2.cell? ⟨w.heap.size + 1, 4, none⟩ = some (.int .i64 n.time) ∧ w2.cell? ⟨w.heap.size + 1, 5, none⟩ = some (.int .i64 n.aseq) ∧ w2.cell? ⟨w.heap.size + 1, 6, none⟩ = some (.int .i64 n.aend) ∧ w2.cell? ⟨w.heap.size + 1, 7, none⟩ = some (.slice B n.prof.length d) ∧ w2.cell? ⟨w.heap.size + 1, 8, none⟩ = some (.slice B' n.links.length d') ∧ w2.cell? ⟨w.heap.size + 1, 9, none⟩ = some (.int .i64 n.min) ∧ w2.cell? ⟨w.heap.size + 1, 10, none⟩ = some (.int .i64 n.speed) ∧ w2.cell? ⟨w.heap.size + 1, 11, none⟩ = some (.int .i64 n.mode) ∧ w2.cell? ⟨w.heap.size + 1, 12, none⟩ = some (.int .i64 n.acc) ∧ w2.cell? ⟨w.heap.size + 1, 13, none⟩ = some (.bool n.whole) ∧ Inv2 w w.heap.size (w.heap.size + 1) m n A c A' c' B d B' d' w2 := hI2.cells
  clear hI2
  go_wp2_with fail
  go_region_held3 (fun w' => w'.cell? ⟨w.heap.size, 0, none⟩ = some (.int .i64 m.kind) ∧ w'.cell? ⟨w.heap.size, 1, none⟩ = some (.int .i64 m.fro) ∧ w'.cell? ⟨w.heap.size, 2, none⟩ = some (.int .i64 m.to) ∧ w'.cell? ⟨w.heap.size, 3, none⟩ = some (.int .i64 m.seq) ∧ w'.cell? ⟨w.heap.size, 4, none⟩ = some (.int .i64 m.time) ∧ w'.cell? ⟨w.heap.size, 5, none⟩ = some (.int .i64 m.aseq) ∧ w'.cell? ⟨w.heap.size, 6, none⟩ = some (.int .i64 m.aend) ∧ w'.cell? ⟨w.heap.size, 7, none⟩ = some (.slice A m.prof.length c) ∧ w'.cell? ⟨w.heap.size, 8, none⟩ = some (.slice A' m.links.length c') ∧ w'.cell? ⟨w.heap.size, 9, none⟩ = some (.int .i64 m.min) ∧ w'.cell? ⟨w.heap.size, 10, none⟩ = some (.int .i64 m.speed) ∧ w'.cell? ⟨w.heap.size, 11, none⟩ = some (.int .i64 m.mode) ∧ w'.cell? ⟨w.heap.size, 12, none⟩ = some (.int .i64 m.acc) ∧ w'.cell? ⟨w.heap.size, 13, none⟩ = some (.bool m.whole) ∧ w'.cell? ⟨w.heap.size + 1, 0, none⟩ = some (.int .i64 n.kind) ∧ w'.cell? ⟨w.heap.size + 1, 1, none⟩ = some (.int .i64 n.fro) ∧ w'.cell? ⟨w.heap.size + 1, 2, none⟩ = some (.int .i64 n.to) ∧ w'.cell? ⟨w.heap.size + 1, 3, none⟩ = some (.int .i64 n.seq) ∧ w'.cell? ⟨w.heap.size + 1, 4, none⟩ = some (.int .i64 n.time) ∧ w'.cell? ⟨w.heap.size + 1, 5, none⟩ = some (.int .i64 n.aseq) ∧ w'.cell? ⟨w.heap.size + 1, 6, none⟩ = some (.int .i64 n.aend) ∧ w'.cell? ⟨w.heap.size + 1, 7, none⟩ = some (.slice B n.prof.length d) ∧ w'.cell? ⟨w.heap.size + 1, 8, none⟩ = some (.slice B' n.links.length d') ∧ w'.cell? ⟨w.heap.size + 1, 9, none⟩ = some (.int .i64 n.min) ∧ w'.cell? ⟨w.heap.size + 1, 10, none⟩ = some (.int .i64 n.speed) ∧ w'.cell? ⟨w.heap.size + 1, 11, none⟩ = some (.int .i64 n.mode) ∧ w'.cell? ⟨w.heap.size + 1, 12, none⟩ = some (.int .i64 n.acc) ∧ w'.cell? ⟨w.heap.size + 1, 13, none⟩ = some (.bool n.whole) ∧ Inv2 w w.heap.size (w.heap.size + 1) m n A c A' c' B d B' d' w')
    (first | assumption | exact held2m_drew ‹_› | (refine held2m_step ?_ ‹_›; assumption))
    (first
      | (go_at_call 59; refine (valid_any m A c A' c' _ lm lm' (inv2_of (by assumption)).m1 (inv2_of (by assumption)).m2).mono ?_; rintro e wq ⟨rfl, hq⟩)
      | (go_at_call 60; refine (rValid_any m A c A' c' _ lm lm' (inv2_of (by assumption)).m1 (inv2_of (by assumption)).m2).mono ?_; rintro e wq ⟨rfl, hq⟩)
      | (go_at_call 61; refine (encode_any m A c A' c' _ om (inv2_of (by assumption)).m1 (inv2_of (by assumption)).m2).mono ?_; rintro e wq ⟨rfl, hq⟩)
      | (go_at_call 62; refine (rEncode_any m A c A' c' _ om (inv2_of (by assumption)).m1 (inv2_of (by assumption)).m2).mono ?_; rintro e wq ⟨rfl, hq⟩)
      | (go_at_call 63; (with_reducible refine (same_msg m n A c A' c' B d B' d' _ lm lm' (inv2_of (by assumption)).m1 (inv2_of (by assumption)).m2 ln ln' (inv2_of (by assumption)).n1 (inv2_of (by assumption)).n2).mono ?_); rintro e wq ⟨rfl, hq⟩)
      | (go_at_call 63; (with_reducible refine (same_msg m m A c A' c' A c A' c' _ lm lm' (inv2_of (by assumption)).m1 (inv2_of (by assumption)).m2 lm lm' (inv2_of (by assumption)).m1 (inv2_of (by assumption)).m2).mono ?_); rw [same_mm]; rintro e wq ⟨rfl, hq⟩)
      | (go_at_call 64; refine (rSame_msg m n A c A' c' B d B' d' _ lm lm' (inv2_of (by assumption)).m1 (inv2_of (by assumption)).m2 ln ln' (inv2_of (by assumption)).n1 (inv2_of (by assumption)).n2).mono ?_; rintro e wq ⟨rfl, hq⟩)
      | (go_at_call 58; refine (alive37 _).mono ?_; rintro e wq ⟨rfl, hq⟩))
  all_goals (go_wp2_with fail)
  all_goals go_ret
  all_goals (refine ⟨?_, (inv2_of (by assumption)).below⟩)
  all_goals (first | rfl | simp)
theorem messageEncodes_walk (m : Msg) (A : Option Addr) (c : Nat) (A' : Option Addr) (c' : Nat) (n : Msg) (B : Option Addr) (d : Nat) (B' : Option Addr) (d' : Nat) (w : World) (om : m.Ok) (hm : RdS cSeg w w.heap.size A m.prof) (hm' : RdS cLnk w w.heap.size A' m.links) (on : n.Ok) (hn : RdS cSeg w w.heap.size B n.prof) (hn' : RdS cLnk w w.heap.size B' n.links) :
    Calls Try.prog 15 #[.agg #[.int .i64 m.kind, .int .i64 m.fro, .int .i64 m.to, .int .i64 m.seq, .int .i64 m.time, .int .i64 m.aseq, .int .i64 m.aend, .slice A m.prof.length c, .slice A' m.links.length c', .int .i64 m.min, .int .i64 m.speed, .int .i64 m.mode, .int .i64 m.acc, .bool m.whole], .agg #[.int .i64 n.kind, .int .i64 n.fro, .int .i64 n.to, .int .i64 n.seq, .int .i64 n.time, .int .i64 n.aseq, .int .i64 n.aend, .slice B n.prof.length d, .slice B' n.links.length d', .int .i64 n.min, .int .i64 n.speed, .int .i64 n.mode, .int .i64 n.acc, .bool n.whole]] w fun e w' => e = .returned (.bool true) ∧ Below w.heap.size w w' := by
  cases hf : fewB m
  · exact messageEncodes_no m n A c A' c' B d B' d' w om hm hm' on hn hn' (.inl hf)
  · cases hf' : fewB n
    · exact messageEncodes_no m n A c A' c' B d B' d' w om hm hm' on hn hn' (.inr ⟨hf, hf'⟩)
    · exact messageEncodes_few m n A c A' c' B d B' d' w om hm hm' on hn hn' hf hf'
end Go.Proofs.Ytlpkkcodmoklaaa
