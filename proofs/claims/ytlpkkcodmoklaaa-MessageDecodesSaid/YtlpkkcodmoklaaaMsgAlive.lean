/- The walk of the examples of chapter 37. -/
import Derived.Test.YtlpkkcodmoklaaaMsgLaw
import Derived.Test.YtlpkkcodmoklaaaBlk
import Derived.Test.YtlpkkcodmoklaaaMsgEncF
import Derived.Deep.RegionHeld3
import Derived.Test.YtlpkkcodmoklaaaMsgWalksF
import Derived.Test.YtlpkkcodmoklaaaMsgWalksG
namespace Go.Proofs.Ytlpkkcodmoklaaa
set_option linter.unusedVariables false
set_option linter.unusedSimpArgs false
open Go.RowKit
attribute [local go_sem] bs_size bs_get bs_append bs_extract bs_toList bs_nil
def m1 : Msg := ⟨5, 0, 7, 1, 2, 0, 0, [], [], 0, 0, 0, 0, false⟩
def m2 : Msg := ⟨5, 0, 7, 1, 2, 0, 0, [], [], 0, 0, 1, 0, false⟩
theorem m1_valid : validB m1 = true := by decide +kernel
theorem m2_valid : validB m2 = false := by decide +kernel
theorem m1_enc : encM m1 = [10, 0, 14, 2, 4, 179, 87, 100, 45] := by decide +kernel
theorem m2_enc : encM m2 = [] := by decide +kernel
theorem m_ok {k : Int} (h : I64n k) : (⟨5, 0, 7, 1, 2, 0, 0, [], [], 0, 0, k, 0, false⟩ : Msg).Ok := by
  refine ⟨?_, ?_, ?_, ?_, ?_, ?_, ?_, ?_, ?_, ?_, ?_, by simp, by simp⟩
  all_goals first | exact h | (show (-9223372036854775808 : Int) ≤ _ ∧ _; simp only []; omega)
theorem m1_ok : m1.Ok := m_ok ⟨by decide, by decide⟩
theorem m2_ok : m2.Ok := m_ok ⟨by decide, by decide⟩
theorem m1_dec : decP [10, 0, 14, 2, 4, 179, 87, 100, 45] = (m1, 0) := by
  rw [← m1_enc]
  exact dec_enc m1_valid m1_ok (by simp [m1]) (by simp [m1])
theorem m1_same : sameM m1 m1 = true := by decide +kernel
theorem m12_same : sameM m1 m2 = false := by decide +kernel
theorem decode_any (l : List UInt8) (w : World) (hs : l.length ≤ 100000) :
    Calls Try.prog 65 #[.string (bs l)] w fun e w' => DecOut w (decP l) e w' := by
  by_cases ho : (openV l).2 = 0
  · exact decode_bad l w hs ho
  · exact decode_shut l w hs (by simpa using ho)
set_option maxRecDepth 100000 in
set_option maxHeartbeats 4000000 in
theorem alive37 (w : World) : Calls Try.prog 58 #[] w fun e w' => e = .returned (.bool true) ∧ Below w.heap.size w w' := by
  have hB : Blk (w.alloc (.cells #[.int .i64 5, .int .i64 0, .int .i64 7, .int .i64 1, .int .i64 2, .int .i64 0, .int .i64 0, .slice none 0 0, .slice none 0 0, .int .i64 0, .int .i64 0, .int .i64 0, .int .i64 0, .bool false] 69)) w.heap.size 69 #[.int .i64 5, .int .i64 0, .int .i64 7, .int .i64 1, .int .i64 2, .int .i64 0, .int .i64 0, .slice none 0 0, .slice none 0 0, .int .i64 0, .int .i64 0, .int .i64 0, .int .i64 0, .bool false] := Blk.new _ _ _ _ rfl
  have hb0 : Below w.heap.size w (w.alloc (.cells #[.int .i64 5, .int .i64 0, .int .i64 7, .int .i64 1, .int .i64 2, .int .i64 0, .int .i64 0, .slice none 0 0, .slice none 0 0, .int .i64 0, .int .i64 0, .int .i64 0, .int .i64 0, .bool false] 69)) := (Below.refl _ _).alloc (Nat.le_refl _) _
  have hs0 : (w.alloc (.cells #[.int .i64 5, .int .i64 0, .int .i64 7, .int .i64 1, .int .i64 2, .int .i64 0, .int .i64 0, .slice none 0 0, .slice none 0 0, .int .i64 0, .int .i64 0, .int .i64 0, .int .i64 0, .bool false] 69)).heap.size = w.heap.size + 1 := World.size_alloc _ _
  go_enter Try.func58, Try.ntmps58
  go_wp2_with fail
  refine (encode_any m1 none 0 none 0 _ m1_ok (RdS.nil _ _ _ _) (RdS.nil _ _ _ _)).mono ?_
  rw [m1_enc]
  rintro e w1 ⟨rfl, hb1⟩
  have hB1 := hB.now hb1
  have hc1 := bel_then hb0 (by omega) hb1
  have hz1 := hB1.lt
  generalize (w.alloc (.cells #[.int .i64 5, .int .i64 0, .int .i64 7, .int .i64 1, .int .i64 2, .int .i64 0, .int .i64 0, .slice none 0 0, .slice none 0 0, .int .i64 0, .int .i64 0, .int .i64 0, .int .i64 0, .bool false] 69)) = wA at *
  clear hB hb0 hb1 hs0
  go_wp2_with fail
  refine (decode_any [10, 0, 14, 2, 4, 179, 87, 100, 45] _ (by simp)).mono ?_
  rw [m1_dec]
  rintro e w2 ⟨A, c, A', c', rfl, _, _, hb2⟩
  have hB2 := hB1.now hb2
  have hc2 := bel_then hc1 (by omega) hb2
  have hz2 := hB2.lt
  clear hB1 hc1 hz1 hb2
  have c0 := hB2.cell 0
  have c1 := hB2.cell 1
  have c2 := hB2.cell 2
  have c3 := hB2.cell 3
  have c4 := hB2.cell 4
  have c5 := hB2.cell 5
  have c6 := hB2.cell 6
  have c7 := hB2.cell 7
  have c8 := hB2.cell 8
  have c9 := hB2.cell 9
  have c10 := hB2.cell 10
  have c11 := hB2.cell 11
  have c12 := hB2.cell 12
  have c13 := hB2.cell 13
  simp only [List.getElem?_toArray, List.getElem?_cons_succ, List.getElem?_cons_zero] at c0 c1 c2 c3 c4 c5 c6 c7 c8 c9 c10 c11 c12 c13
  have hP : Blk ((w2.alloc (.cells #[.int .i64 m1.kind, .int .i64 m1.fro, .int .i64 m1.to, .int .i64 m1.seq, .int .i64 m1.time, .int .i64 m1.aseq, .int .i64 m1.aend, .slice A m1.prof.length c, .slice A' m1.links.length c', .int .i64 m1.min, .int .i64 m1.speed, .int .i64 m1.mode, .int .i64 m1.acc, .bool m1.whole] 69)).alloc (.cells #[.int .i64 5, .int .i64 0, .int .i64 7, .int .i64 1, .int .i64 2, .int .i64 0, .int .i64 0, .slice none 0 0, .slice none 0 0, .int .i64 0, .int .i64 0, .int .i64 1, .int .i64 0, .bool false] 69)) w.heap.size 69 #[.int .i64 5, .int .i64 0, .int .i64 7, .int .i64 1, .int .i64 2, .int .i64 0, .int .i64 0, .slice none 0 0, .slice none 0 0, .int .i64 0, .int .i64 0, .int .i64 0, .int .i64 0, .bool false] := (hB2.alloc _).alloc _
  have hQ : Blk ((w2.alloc (.cells #[.int .i64 m1.kind, .int .i64 m1.fro, .int .i64 m1.to, .int .i64 m1.seq, .int .i64 m1.time, .int .i64 m1.aseq, .int .i64 m1.aend, .slice A m1.prof.length c, .slice A' m1.links.length c', .int .i64 m1.min, .int .i64 m1.speed, .int .i64 m1.mode, .int .i64 m1.acc, .bool m1.whole] 69)).alloc (.cells #[.int .i64 5, .int .i64 0, .int .i64 7, .int .i64 1, .int .i64 2, .int .i64 0, .int .i64 0, .slice none 0 0, .slice none 0 0, .int .i64 0, .int .i64 0, .int .i64 1, .int .i64 0, .bool false] 69)) w2.heap.size 69 #[.int .i64 m1.kind, .int .i64 m1.fro, .int .i64 m1.to, .int .i64 m1.seq, .int .i64 m1.time, .int .i64 m1.aseq, .int .i64 m1.aend, .slice A m1.prof.length c, .slice A' m1.links.length c', .int .i64 m1.min, .int .i64 m1.speed, .int .i64 m1.mode, .int .i64 m1.acc, .bool m1.whole] := (Blk.new _ _ _ _ rfl).alloc _
  have hR : Blk ((w2.alloc (.cells #[.int .i64 m1.kind, .int .i64 m1.fro, .int .i64 m1.to, .int .i64 m1.seq, .int .i64 m1.time, .int .i64 m1.aseq, .int .i64 m1.aend, .slice A m1.prof.length c, .slice A' m1.links.length c', .int .i64 m1.min, .int .i64 m1.speed, .int .i64 m1.mode, .int .i64 m1.acc, .bool m1.whole] 69)).alloc (.cells #[.int .i64 5, .int .i64 0, .int .i64 7, .int .i64 1, .int .i64 2, .int .i64 0, .int .i64 0, .slice none 0 0, .slice none 0 0, .int .i64 0, .int .i64 0, .int .i64 1, .int .i64 0, .bool false] 69)) (w2.heap.size + 1) 69 #[.int .i64 5, .int .i64 0, .int .i64 7, .int .i64 1, .int .i64 2, .int .i64 0, .int .i64 0, .slice none 0 0, .slice none 0 0, .int .i64 0, .int .i64 0, .int .i64 1, .int .i64 0, .bool false] := Blk.new _ _ _ _ (by simp)
  have hc3 : Below w.heap.size w ((w2.alloc (.cells #[.int .i64 m1.kind, .int .i64 m1.fro, .int .i64 m1.to, .int .i64 m1.seq, .int .i64 m1.time, .int .i64 m1.aseq, .int .i64 m1.aend, .slice A m1.prof.length c, .slice A' m1.links.length c', .int .i64 m1.min, .int .i64 m1.speed, .int .i64 m1.mode, .int .i64 m1.acc, .bool m1.whole] 69)).alloc (.cells #[.int .i64 5, .int .i64 0, .int .i64 7, .int .i64 1, .int .i64 2, .int .i64 0, .int .i64 0, .slice none 0 0, .slice none 0 0, .int .i64 0, .int .i64 0, .int .i64 1, .int .i64 0, .bool false] 69)) := (hc2.alloc (by omega) _).alloc (by simp; omega) _
  have hs3 : ((w2.alloc (.cells #[.int .i64 m1.kind, .int .i64 m1.fro, .int .i64 m1.to, .int .i64 m1.seq, .int .i64 m1.time, .int .i64 m1.aseq, .int .i64 m1.aend, .slice A m1.prof.length c, .slice A' m1.links.length c', .int .i64 m1.min, .int .i64 m1.speed, .int .i64 m1.mode, .int .i64 m1.acc, .bool m1.whole] 69)).alloc (.cells #[.int .i64 5, .int .i64 0, .int .i64 7, .int .i64 1, .int .i64 2, .int .i64 0, .int .i64 0, .slice none 0 0, .slice none 0 0, .int .i64 0, .int .i64 0, .int .i64 1, .int .i64 0, .bool false] 69)).heap.size = w2.heap.size + 2 := by simp
  go_wp2_with fail
  refine (valid_any m1 none 0 none 0 _ (by simp [m1]) (by simp [m1]) (RdS.nil _ _ _ _) (RdS.nil _ _ _ _)).mono ?_
  rw [m1_valid]
  rintro e w4 ⟨rfl, hb4⟩
  generalize ((w2.alloc (.cells #[.int .i64 m1.kind, .int .i64 m1.fro, .int .i64 m1.to, .int .i64 m1.seq, .int .i64 m1.time, .int .i64 m1.aseq, .int .i64 m1.aend, .slice A m1.prof.length c, .slice A' m1.links.length c', .int .i64 m1.min, .int .i64 m1.speed, .int .i64 m1.mode, .int .i64 m1.acc, .bool m1.whole] 69)).alloc (.cells #[.int .i64 5, .int .i64 0, .int .i64 7, .int .i64 1, .int .i64 2, .int .i64 0, .int .i64 0, .slice none 0 0, .slice none 0 0, .int .i64 0, .int .i64 0, .int .i64 1, .int .i64 0, .bool false] 69)) = w3 at *
  clear c0 c1 c2 c3 c4 c5 c6 c7 c8 c9 c10 c11 c12 c13
  have hP4 := hP.now hb4
  have hQ4 := hQ.now hb4
  have hR4 := hR.now hb4
  have hc4 := bel_then hc3 (by omega) hb4
  have l1 := hP4.lt
  have l2 := hQ4.lt
  have l3 := hR4.lt
  clear hB2 hP hQ hR hb4 hc3 hs3
  have r0 := hR4.cell 0
  have r1 := hR4.cell 1
  have r2 := hR4.cell 2
  have r3 := hR4.cell 3
  have r4 := hR4.cell 4
  have r5 := hR4.cell 5
  have r6 := hR4.cell 6
  have r7 := hR4.cell 7
  have r8 := hR4.cell 8
  have r9 := hR4.cell 9
  have r10 := hR4.cell 10
  have r11 := hR4.cell 11
  have r12 := hR4.cell 12
  have r13 := hR4.cell 13
  simp only [List.getElem?_toArray, List.getElem?_cons_succ, List.getElem?_cons_zero] at r0 r1 r2 r3 r4 r5 r6 r7 r8 r9 r10 r11 r12 r13
  go_wp2_with fail
  refine (valid_any m2 none 0 none 0 _ (by simp [m2]) (by simp [m2]) (RdS.nil _ _ _ _) (RdS.nil _ _ _ _)).mono ?_
  rw [m2_valid]
  rintro e w5 ⟨rfl, hb5⟩
  clear r0 r1 r2 r3 r4 r5 r6 r7 r8 r9 r10 r11 r12 r13
  have hP5 := hP4.now hb5
  have hQ5 := hQ4.now hb5
  have hR5 := hR4.now hb5
  have hc5 := bel_then hc4 (by omega) hb5
  have l1 := hP5.lt
  have l2 := hQ5.lt
  have l3 := hR5.lt
  clear hP4 hQ4 hR4 hb5 hc4
  have r0 := hR5.cell 0
  have r1 := hR5.cell 1
  have r2 := hR5.cell 2
  have r3 := hR5.cell 3
  have r4 := hR5.cell 4
  have r5 := hR5.cell 5
  have r6 := hR5.cell 6
  have r7 := hR5.cell 7
  have r8 := hR5.cell 8
  have r9 := hR5.cell 9
  have r10 := hR5.cell 10
  have r11 := hR5.cell 11
  have r12 := hR5.cell 12
  have r13 := hR5.cell 13
  simp only [List.getElem?_toArray, List.getElem?_cons_succ, List.getElem?_cons_zero] at r0 r1 r2 r3 r4 r5 r6 r7 r8 r9 r10 r11 r12 r13
  go_wp2_with fail
  refine (encode_any m2 none 0 none 0 _ m2_ok (RdS.nil _ _ _ _) (RdS.nil _ _ _ _)).mono ?_
  rw [m2_enc]
  rintro e w6 ⟨rfl, hb6⟩
  clear r0 r1 r2 r3 r4 r5 r6 r7 r8 r9 r10 r11 r12 r13
  have hP6 := hP5.now hb6
  have hQ6 := hQ5.now hb6
  have hR6 := hR5.now hb6
  have hc6 := bel_then hc5 (by omega) hb6
  have l1 := hP6.lt
  have l2 := hQ6.lt
  have l3 := hR6.lt
  clear hP5 hQ5 hR5 hb6 hc5
  have p0 := hP6.cell 0
  have p1 := hP6.cell 1
  have p2 := hP6.cell 2
  have p3 := hP6.cell 3
  have p4 := hP6.cell 4
  have p5 := hP6.cell 5
  have p6 := hP6.cell 6
  have p7 := hP6.cell 7
  have p8 := hP6.cell 8
  have p9 := hP6.cell 9
  have p10 := hP6.cell 10
  have p11 := hP6.cell 11
  have p12 := hP6.cell 12
  have p13 := hP6.cell 13
  simp only [List.getElem?_toArray, List.getElem?_cons_succ, List.getElem?_cons_zero] at p0 p1 p2 p3 p4 p5 p6 p7 p8 p9 p10 p11 p12 p13
  have q0 := hQ6.cell 0
  have q1 := hQ6.cell 1
  have q2 := hQ6.cell 2
  have q3 := hQ6.cell 3
  have q4 := hQ6.cell 4
  have q5 := hQ6.cell 5
  have q6 := hQ6.cell 6
  have q7 := hQ6.cell 7
  have q8 := hQ6.cell 8
  have q9 := hQ6.cell 9
  have q10 := hQ6.cell 10
  have q11 := hQ6.cell 11
  have q12 := hQ6.cell 12
  have q13 := hQ6.cell 13
  simp only [List.getElem?_toArray, List.getElem?_cons_succ, List.getElem?_cons_zero] at q0 q1 q2 q3 q4 q5 q6 q7 q8 q9 q10 q11 q12 q13
  go_wp2_with fail
  refine (same_msg m1 m1 none 0 none 0 A c A' c' _ (by simp [m1]) (by simp [m1]) (RdS.nil _ _ _ _) (RdS.nil _ _ _ _) (by simp [m1]) (by simp [m1]) (RdS.nil _ _ _ _) (RdS.nil _ _ _ _)).mono ?_
  rw [m1_same]
  rintro e w7 ⟨rfl, hb7⟩
  clear p0 p1 p2 p3 p4 p5 p6 p7 p8 p9 p10 p11 p12 p13 q0 q1 q2 q3 q4 q5 q6 q7 q8 q9 q10 q11 q12 q13
  have hP7 := hP6.now hb7
  have hQ7 := hQ6.now hb7
  have hR7 := hR6.now hb7
  have hc7 := bel_then hc6 (by omega) hb7
  have l1 := hP7.lt
  have l2 := hQ7.lt
  have l3 := hR7.lt
  clear hP6 hQ6 hR6 hb7 hc6
  have p0 := hP7.cell 0
  have p1 := hP7.cell 1
  have p2 := hP7.cell 2
  have p3 := hP7.cell 3
  have p4 := hP7.cell 4
  have p5 := hP7.cell 5
  have p6 := hP7.cell 6
  have p7 := hP7.cell 7
  have p8 := hP7.cell 8
  have p9 := hP7.cell 9
  have p10 := hP7.cell 10
  have p11 := hP7.cell 11
  have p12 := hP7.cell 12
  have p13 := hP7.cell 13
  simp only [List.getElem?_toArray, List.getElem?_cons_succ, List.getElem?_cons_zero] at p0 p1 p2 p3 p4 p5 p6 p7 p8 p9 p10 p11 p12 p13
  have r0 := hR7.cell 0
  have r1 := hR7.cell 1
  have r2 := hR7.cell 2
  have r3 := hR7.cell 3
  have r4 := hR7.cell 4
  have r5 := hR7.cell 5
  have r6 := hR7.cell 6
  have r7 := hR7.cell 7
  have r8 := hR7.cell 8
  have r9 := hR7.cell 9
  have r10 := hR7.cell 10
  have r11 := hR7.cell 11
  have r12 := hR7.cell 12
  have r13 := hR7.cell 13
  simp only [List.getElem?_toArray, List.getElem?_cons_succ, List.getElem?_cons_zero] at r0 r1 r2 r3 r4 r5 r6 r7 r8 r9 r10 r11 r12 r13
  go_wp2_with fail
  refine (same_msg m1 m2 none 0 none 0 none 0 none 0 _ (by simp [m1]) (by simp [m1]) (RdS.nil _ _ _ _) (RdS.nil _ _ _ _) (by simp [m2]) (by simp [m2]) (RdS.nil _ _ _ _) (RdS.nil _ _ _ _)).mono ?_
  rw [m12_same]
  rintro e w8 ⟨rfl, hb8⟩
  clear p0 p1 p2 p3 p4 p5 p6 p7 p8 p9 p10 p11 p12 p13 r0 r1 r2 r3 r4 r5 r6 r7 r8 r9 r10 r11 r12 r13
  have hP8 := hP7.now hb8
  have hQ8 := hQ7.now hb8
  have hR8 := hR7.now hb8
  have hc8 := bel_then hc7 (by omega) hb8
  have l1 := hP8.lt
  have l2 := hQ8.lt
  have l3 := hR8.lt
  clear hP7 hQ7 hR7 hb8 hc7
  go_wp2_with fail
  go_ret
  exact ⟨by simp, hc8⟩
theorem same_mm (m : Msg) : sameM m m = true := sameM_iff.2 rfl
/-! ### An argument that is a message -/
def cAuth : Cod (Int × Int × List Seg × List Lnk × Unit) := cP cI (cP cI (cP (cL cSeg) (cP (cL cLnk) cN)))
def cRep : Cod (Int × Int × Int × Int × Bool × Unit) := cP cI (cP cI (cP cI (cP cI (cP cB cN))))
theorem opens_auth : Opens Try.prog 65 cAuth :=
  opens_R Try.underlying65 (by kernel_rfl) (fields_cons (by rfl) (opens_I Try.underlying3 (by kernel_rfl)) (fields_cons (by rfl) (opens_I Try.underlying3 (by kernel_rfl)) (fields_cons (by rfl) (opens_L Try.underlying62 (by kernel_rfl) opens_seg (by decide)) (fields_cons (by rfl) (opens_L Try.underlying63 (by kernel_rfl) opens_lnk (by decide)) fields_nil))))
theorem opens_rep : Opens Try.prog 67 cRep :=
  opens_R Try.underlying67 (by kernel_rfl) (fields_cons (by rfl) (opens_I Try.underlying3 (by kernel_rfl)) (fields_cons (by rfl) (opens_I Try.underlying3 (by kernel_rfl)) (fields_cons (by rfl) (opens_I Try.underlying3 (by kernel_rfl)) (fields_cons (by rfl) (opens_I Try.underlying3 (by kernel_rfl)) (fields_cons (by rfl) (opens_B Try.underlying4 (by kernel_rfl)) fields_nil)))))
theorem opens_msg : Opens Try.prog 69 cMsg := by
  refine opens_to (c := cP cI (cP cI (cP cI (cP cI (cP cI (cP cAuth (cP cRep cN))))))) (opens_R Try.underlying69 (by kernel_rfl) (fields_cons (by rfl) (opens_I Try.underlying3 (by kernel_rfl)) (fields_cons (by rfl) (opens_I Try.underlying3 (by kernel_rfl)) (fields_cons (by rfl) (opens_I Try.underlying3 (by kernel_rfl)) (fields_cons (by rfl) (opens_I Try.underlying3 (by kernel_rfl)) (fields_cons (by rfl) (opens_I Try.underlying3 (by kernel_rfl)) (fields_cons (by rfl) opens_auth (fields_cons (by rfl) opens_rep fields_nil)))))))) rfl ?_
  rintro w B cs ⟨a0, a1, a2, a3, a4, ⟨a5, a6, a7, a8, _⟩, ⟨a9, a10, a11, a12, a13, _⟩, _⟩ ⟨_, _, rfl, ⟨rfl, h0⟩, _, _, rfl, ⟨rfl, h1⟩, _, _, rfl, ⟨rfl, h2⟩, _, _, rfl, ⟨rfl, h3⟩, _, _, rfl, ⟨rfl, h4⟩, _, _, rfl, ⟨_, _, rfl, ⟨rfl, h5⟩, _, _, rfl, ⟨rfl, h6⟩, _, _, rfl, ⟨A, c, rfl, h7, hp⟩, _, _, rfl, ⟨A', c', rfl, h8, hl⟩, rfl⟩, _, _, rfl, ⟨_, _, rfl, ⟨rfl, h9⟩, _, _, rfl, ⟨rfl, h10⟩, _, _, rfl, ⟨rfl, h11⟩, _, _, rfl, ⟨rfl, h12⟩, _, _, rfl, rfl, rfl⟩, rfl⟩
  exact ⟨⟨a0, a1, a2, a3, a4, a5, a6, a7, a8, a9, a10, a11, a12, a13⟩, A, c, A', c', rfl, ⟨h0, h1, h2, h3, h4, h5, h6, h9, h10, h11, h12, h7, h8⟩, hp, hl⟩
set_option maxRecDepth 100000 in
theorem open_msg {H : Type} {enc : TypeId × Value → H} {w : World} {r : Reach} {b0 : Nat} {v : Value} {d : DataW H} {p : List MemPlace} (hv : Value.okWide Try.prog w r b0 69 v) (h : DataW.Trod enc Try.prog w 0 (fun _ => true) true 69 v d p) :
    ∃ (m : Msg) (A : Option Addr) (c : Nat) (A' : Option Addr) (c' : Nat), v = .agg #[.int .i64 m.kind, .int .i64 m.fro, .int .i64 m.to, .int .i64 m.seq, .int .i64 m.time, .int .i64 m.aseq, .int .i64 m.aend, .slice A m.prof.length c, .slice A' m.links.length c', .int .i64 m.min, .int .i64 m.speed, .int .i64 m.mode, .int .i64 m.acc, .bool m.whole] ∧ m.Ok ∧ RdS cSeg w w.heap.size A m.prof ∧ RdS cLnk w w.heap.size A' m.links := by
  obtain ⟨cs, m, rfl, A, c, A', c', rfl, h1, h2, h3⟩ := open_struct Try.underlying69 opens_msg hv h
  exact ⟨m, A, c, A', c', rfl, h1, h2, h3⟩
/-! ### Two messages in boxes -/
/-- The boxes of two messages are there, their rows read as they did, and nothing that was there at first has turned. -/
structure Inv2 (w : World) (b1 b2 : Nat) (m n : Msg) (A : Option Addr) (c : Nat) (A' : Option Addr) (c' : Nat) (B : Option Addr) (d : Nat) (B' : Option Addr) (d' : Nat) (w' : World) : Prop where
  box1 : Blk w' b1 69 #[.int .i64 m.kind, .int .i64 m.fro, .int .i64 m.to, .int .i64 m.seq, .int .i64 m.time, .int .i64 m.aseq, .int .i64 m.aend, .slice A m.prof.length c, .slice A' m.links.length c', .int .i64 m.min, .int .i64 m.speed, .int .i64 m.mode, .int .i64 m.acc, .bool m.whole]
  box2 : Blk w' b2 69 #[.int .i64 n.kind, .int .i64 n.fro, .int .i64 n.to, .int .i64 n.seq, .int .i64 n.time, .int .i64 n.aseq, .int .i64 n.aend, .slice B n.prof.length d, .slice B' n.links.length d', .int .i64 n.min, .int .i64 n.speed, .int .i64 n.mode, .int .i64 n.acc, .bool n.whole]
  m1 : RdS cSeg w' w'.heap.size A m.prof
  m2 : RdS cLnk w' w'.heap.size A' m.links
  n1 : RdS cSeg w' w'.heap.size B n.prof
  n2 : RdS cLnk w' w'.heap.size B' n.links
  below : Below w.heap.size w w'
  size : w.heap.size ≤ w'.heap.size
section
variable {w w1 w2 : World} {b1 b2 : Nat} {m n : Msg} {A B A' B' : Option Addr} {c d c' d' : Nat}
theorem Inv2.step (h : Inv2 w b1 b2 m n A c A' c' B d B' d' w1) (hb : Below w1.heap.size w1 w2) : Inv2 w b1 b2 m n A c A' c' B d B' d' w2 :=
  ⟨h.box1.now hb, h.box2.now hb, h.m1.now hb, h.m2.now hb, h.n1.now hb, h.n2.now hb, bel_then h.below h.size hb, Nat.le_trans h.size hb.size⟩
theorem Inv2.cells (h : Inv2 w b1 b2 m n A c A' c' B d B' d' w1) : w1.cell? ⟨b1, 0, none⟩ = some (.int .i64 m.kind) ∧ w1.cell? ⟨b1, 1, none⟩ = some (.int .i64 m.fro) ∧ w1.cell? ⟨b1, 2, none⟩ = some (.int .i64 m.to) ∧ w1.cell? ⟨b1, 3, none⟩ = some (.int .i64 m.seq) ∧ w1.cell? ⟨b1, 4, none⟩ = some (.int .i64 m.time) ∧ w1.cell? ⟨b1, 5, none⟩ = some (.int .i64 m.aseq) ∧ w1.cell? ⟨b1, 6, none⟩ = some (.int .i64 m.aend) ∧ w1.cell? ⟨b1, 7, none⟩ = some (.slice A m.prof.length c) ∧ w1.cell? ⟨b1, 8, none⟩ = some (.slice A' m.links.length c') ∧ w1.cell? ⟨b1, 9, none⟩ = some (.int .i64 m.min) ∧ w1.cell? ⟨b1, 10, none⟩ = some (.int .i64 m.speed) ∧ w1.cell? ⟨b1, 11, none⟩ = some (.int .i64 m.mode) ∧ w1.cell? ⟨b1, 12, none⟩ = some (.int .i64 m.acc) ∧ w1.cell? ⟨b1, 13, none⟩ = some (.bool m.whole) ∧ w1.cell? ⟨b2, 0, none⟩ = some (.int .i64 n.kind) ∧ w1.cell? ⟨b2, 1, none⟩ = some (.int .i64 n.fro) ∧ w1.cell? ⟨b2, 2, none⟩ = some (.int .i64 n.to) ∧ w1.cell? ⟨b2, 3, none⟩ = some (.int .i64 n.seq) ∧ w1.cell? ⟨b2, 4, none⟩ = some (.int .i64 n.time) ∧ w1.cell? ⟨b2, 5, none⟩ = some (.int .i64 n.aseq) ∧ w1.cell? ⟨b2, 6, none⟩ = some (.int .i64 n.aend) ∧ w1.cell? ⟨b2, 7, none⟩ = some (.slice B n.prof.length d) ∧ w1.cell? ⟨b2, 8, none⟩ = some (.slice B' n.links.length d') ∧ w1.cell? ⟨b2, 9, none⟩ = some (.int .i64 n.min) ∧ w1.cell? ⟨b2, 10, none⟩ = some (.int .i64 n.speed) ∧ w1.cell? ⟨b2, 11, none⟩ = some (.int .i64 n.mode) ∧ w1.cell? ⟨b2, 12, none⟩ = some (.int .i64 n.acc) ∧ w1.cell? ⟨b2, 13, none⟩ = some (.bool n.whole) ∧ Inv2 w b1 b2 m n A c A' c' B d B' d' w1 :=
  ⟨h.box1.cell 0, h.box1.cell 1, h.box1.cell 2, h.box1.cell 3, h.box1.cell 4, h.box1.cell 5, h.box1.cell 6, h.box1.cell 7, h.box1.cell 8, h.box1.cell 9, h.box1.cell 10, h.box1.cell 11, h.box1.cell 12, h.box1.cell 13, h.box2.cell 0, h.box2.cell 1, h.box2.cell 2, h.box2.cell 3, h.box2.cell 4, h.box2.cell 5, h.box2.cell 6, h.box2.cell 7, h.box2.cell 8, h.box2.cell 9, h.box2.cell 10, h.box2.cell 11, h.box2.cell 12, h.box2.cell 13, h⟩
theorem inv2_of (h : w1.cell? ⟨b1, 0, none⟩ = some (.int .i64 m.kind) ∧ w1.cell? ⟨b1, 1, none⟩ = some (.int .i64 m.fro) ∧ w1.cell? ⟨b1, 2, none⟩ = some (.int .i64 m.to) ∧ w1.cell? ⟨b1, 3, none⟩ = some (.int .i64 m.seq) ∧ w1.cell? ⟨b1, 4, none⟩ = some (.int .i64 m.time) ∧ w1.cell? ⟨b1, 5, none⟩ = some (.int .i64 m.aseq) ∧ w1.cell? ⟨b1, 6, none⟩ = some (.int .i64 m.aend) ∧ w1.cell? ⟨b1, 7, none⟩ = some (.slice A m.prof.length c) ∧ w1.cell? ⟨b1, 8, none⟩ = some (.slice A' m.links.length c') ∧ w1.cell? ⟨b1, 9, none⟩ = some (.int .i64 m.min) ∧ w1.cell? ⟨b1, 10, none⟩ = some (.int .i64 m.speed) ∧ w1.cell? ⟨b1, 11, none⟩ = some (.int .i64 m.mode) ∧ w1.cell? ⟨b1, 12, none⟩ = some (.int .i64 m.acc) ∧ w1.cell? ⟨b1, 13, none⟩ = some (.bool m.whole) ∧ w1.cell? ⟨b2, 0, none⟩ = some (.int .i64 n.kind) ∧ w1.cell? ⟨b2, 1, none⟩ = some (.int .i64 n.fro) ∧ w1.cell? ⟨b2, 2, none⟩ = some (.int .i64 n.to) ∧ w1.cell? ⟨b2, 3, none⟩ = some (.int .i64 n.seq) ∧ w1.cell? ⟨b2, 4, none⟩ = some (.int .i64 n.time) ∧ w1.cell? ⟨b2, 5, none⟩ = some (.int .i64 n.aseq) ∧ w1.cell? ⟨b2, 6, none⟩ = some (.int .i64 n.aend) ∧ w1.cell? ⟨b2, 7, none⟩ = some (.slice B n.prof.length d) ∧ w1.cell? ⟨b2, 8, none⟩ = some (.slice B' n.links.length d') ∧ w1.cell? ⟨b2, 9, none⟩ = some (.int .i64 n.min) ∧ w1.cell? ⟨b2, 10, none⟩ = some (.int .i64 n.speed) ∧ w1.cell? ⟨b2, 11, none⟩ = some (.int .i64 n.mode) ∧ w1.cell? ⟨b2, 12, none⟩ = some (.int .i64 n.acc) ∧ w1.cell? ⟨b2, 13, none⟩ = some (.bool n.whole) ∧ Inv2 w b1 b2 m n A c A' c' B d B' d' w1) : Inv2 w b1 b2 m n A c A' c' B d B' d' w1 := by
  obtain ⟨_, _, _, _, _, _, _, _, _, _, _, _, _, _, _, _, _, _, _, _, _, _, _, _, _, _, _, _, h⟩ := h
  exact h
theorem held2m_step (h : w1.cell? ⟨b1, 0, none⟩ = some (.int .i64 m.kind) ∧ w1.cell? ⟨b1, 1, none⟩ = some (.int .i64 m.fro) ∧ w1.cell? ⟨b1, 2, none⟩ = some (.int .i64 m.to) ∧ w1.cell? ⟨b1, 3, none⟩ = some (.int .i64 m.seq) ∧ w1.cell? ⟨b1, 4, none⟩ = some (.int .i64 m.time) ∧ w1.cell? ⟨b1, 5, none⟩ = some (.int .i64 m.aseq) ∧ w1.cell? ⟨b1, 6, none⟩ = some (.int .i64 m.aend) ∧ w1.cell? ⟨b1, 7, none⟩ = some (.slice A m.prof.length c) ∧ w1.cell? ⟨b1, 8, none⟩ = some (.slice A' m.links.length c') ∧ w1.cell? ⟨b1, 9, none⟩ = some (.int .i64 m.min) ∧ w1.cell? ⟨b1, 10, none⟩ = some (.int .i64 m.speed) ∧ w1.cell? ⟨b1, 11, none⟩ = some (.int .i64 m.mode) ∧ w1.cell? ⟨b1, 12, none⟩ = some (.int .i64 m.acc) ∧ w1.cell? ⟨b1, 13, none⟩ = some (.bool m.whole) ∧ w1.cell? ⟨b2, 0, none⟩ = some (.int .i64 n.kind) ∧ w1.cell? ⟨b2, 1, none⟩ = some (.int .i64 n.fro) ∧ w1.cell? ⟨b2, 2, none⟩ = some (.int .i64 n.to) ∧ w1.cell? ⟨b2, 3, none⟩ = some (.int .i64 n.seq) ∧ w1.cell? ⟨b2, 4, none⟩ = some (.int .i64 n.time) ∧ w1.cell? ⟨b2, 5, none⟩ = some (.int .i64 n.aseq) ∧ w1.cell? ⟨b2, 6, none⟩ = some (.int .i64 n.aend) ∧ w1.cell? ⟨b2, 7, none⟩ = some (.slice B n.prof.length d) ∧ w1.cell? ⟨b2, 8, none⟩ = some (.slice B' n.links.length d') ∧ w1.cell? ⟨b2, 9, none⟩ = some (.int .i64 n.min) ∧ w1.cell? ⟨b2, 10, none⟩ = some (.int .i64 n.speed) ∧ w1.cell? ⟨b2, 11, none⟩ = some (.int .i64 n.mode) ∧ w1.cell? ⟨b2, 12, none⟩ = some (.int .i64 n.acc) ∧ w1.cell? ⟨b2, 13, none⟩ = some (.bool n.whole) ∧ Inv2 w b1 b2 m n A c A' c' B d B' d' w1) (hb : Below w1.heap.size w1 w2) : w2.cell? ⟨b1, 0, none⟩ = some (.int .i64 m.kind) ∧ w2.cell? ⟨b1, 1, none⟩ = some (.int .i64 m.fro) ∧ w2.cell? ⟨b1, 2, none⟩ = some (.int .i64 m.to) ∧ w2.cell? ⟨b1, 3, none⟩ = some (.int .i64 m.seq) ∧ w2.cell? ⟨b1, 4, none⟩ = some (.int .i64 m.time) ∧ w2.cell? ⟨b1, 5, none⟩ = some (.int .i64 m.aseq) ∧ w2.cell? ⟨b1, 6, none⟩ = some (.int .i64 m.aend) ∧ w2.cell? ⟨b1, 7, none⟩ = some (.slice A m.prof.length c) ∧ w2.cell? ⟨b1, 8, none⟩ = some (.slice A' m.links.length c') ∧ w2.cell? ⟨b1, 9, none⟩ = some (.int .i64 m.min) ∧ w2.cell? ⟨b1, 10, none⟩ = some (.int .i64 m.speed) ∧ w2.cell? ⟨b1, 11, none⟩ = some (.int .i64 m.mode) ∧ w2.cell? ⟨b1, 12, none⟩ = some (.int .i64 m.acc) ∧ w2.cell? ⟨b1, 13, none⟩ = some (.bool m.whole) ∧ w2.cell? ⟨b2, 0, none⟩ = some (.int .i64 n.kind) ∧ w2.cell? ⟨b2, 1, none⟩ = some (.int .i64 n.fro) ∧ w2.cell? ⟨b2, 2, none⟩ = some (.int .i64 n.to) ∧ w2.cell? ⟨b2, 3, none⟩ = some (.int .i64 n.seq) ∧ w2.cell? ⟨b2, 4, none⟩ = some (.int .i64 n.time) ∧ w2.cell? ⟨b2, 5, none⟩ = some (.int .i64 n.aseq) ∧ w2.cell? ⟨b2, 6, none⟩ = some (.int .i64 n.aend) ∧ w2.cell? ⟨b2, 7, none⟩ = some (.slice B n.prof.length d) ∧ w2.cell? ⟨b2, 8, none⟩ = some (.slice B' n.links.length d') ∧ w2.cell? ⟨b2, 9, none⟩ = some (.int .i64 n.min) ∧ w2.cell? ⟨b2, 10, none⟩ = some (.int .i64 n.speed) ∧ w2.cell? ⟨b2, 11, none⟩ = some (.int .i64 n.mode) ∧ w2.cell? ⟨b2, 12, none⟩ = some (.int .i64 n.acc) ∧ w2.cell? ⟨b2, 13, none⟩ = some (.bool n.whole) ∧ Inv2 w b1 b2 m n A c A' c' B d B' d' w2 := ((inv2_of h).step hb).cells
theorem held2m_drew (h : w1.cell? ⟨b1, 0, none⟩ = some (.int .i64 m.kind) ∧ w1.cell? ⟨b1, 1, none⟩ = some (.int .i64 m.fro) ∧ w1.cell? ⟨b1, 2, none⟩ = some (.int .i64 m.to) ∧ w1.cell? ⟨b1, 3, none⟩ = some (.int .i64 m.seq) ∧ w1.cell? ⟨b1, 4, none⟩ = some (.int .i64 m.time) ∧ w1.cell? ⟨b1, 5, none⟩ = some (.int .i64 m.aseq) ∧ w1.cell? ⟨b1, 6, none⟩ = some (.int .i64 m.aend) ∧ w1.cell? ⟨b1, 7, none⟩ = some (.slice A m.prof.length c) ∧ w1.cell? ⟨b1, 8, none⟩ = some (.slice A' m.links.length c') ∧ w1.cell? ⟨b1, 9, none⟩ = some (.int .i64 m.min) ∧ w1.cell? ⟨b1, 10, none⟩ = some (.int .i64 m.speed) ∧ w1.cell? ⟨b1, 11, none⟩ = some (.int .i64 m.mode) ∧ w1.cell? ⟨b1, 12, none⟩ = some (.int .i64 m.acc) ∧ w1.cell? ⟨b1, 13, none⟩ = some (.bool m.whole) ∧ w1.cell? ⟨b2, 0, none⟩ = some (.int .i64 n.kind) ∧ w1.cell? ⟨b2, 1, none⟩ = some (.int .i64 n.fro) ∧ w1.cell? ⟨b2, 2, none⟩ = some (.int .i64 n.to) ∧ w1.cell? ⟨b2, 3, none⟩ = some (.int .i64 n.seq) ∧ w1.cell? ⟨b2, 4, none⟩ = some (.int .i64 n.time) ∧ w1.cell? ⟨b2, 5, none⟩ = some (.int .i64 n.aseq) ∧ w1.cell? ⟨b2, 6, none⟩ = some (.int .i64 n.aend) ∧ w1.cell? ⟨b2, 7, none⟩ = some (.slice B n.prof.length d) ∧ w1.cell? ⟨b2, 8, none⟩ = some (.slice B' n.links.length d') ∧ w1.cell? ⟨b2, 9, none⟩ = some (.int .i64 n.min) ∧ w1.cell? ⟨b2, 10, none⟩ = some (.int .i64 n.speed) ∧ w1.cell? ⟨b2, 11, none⟩ = some (.int .i64 n.mode) ∧ w1.cell? ⟨b2, 12, none⟩ = some (.int .i64 n.acc) ∧ w1.cell? ⟨b2, 13, none⟩ = some (.bool n.whole) ∧ Inv2 w b1 b2 m n A c A' c' B d B' d' w1) : w1.drew.cell? ⟨b1, 0, none⟩ = some (.int .i64 m.kind) ∧ w1.drew.cell? ⟨b1, 1, none⟩ = some (.int .i64 m.fro) ∧ w1.drew.cell? ⟨b1, 2, none⟩ = some (.int .i64 m.to) ∧ w1.drew.cell? ⟨b1, 3, none⟩ = some (.int .i64 m.seq) ∧ w1.drew.cell? ⟨b1, 4, none⟩ = some (.int .i64 m.time) ∧ w1.drew.cell? ⟨b1, 5, none⟩ = some (.int .i64 m.aseq) ∧ w1.drew.cell? ⟨b1, 6, none⟩ = some (.int .i64 m.aend) ∧ w1.drew.cell? ⟨b1, 7, none⟩ = some (.slice A m.prof.length c) ∧ w1.drew.cell? ⟨b1, 8, none⟩ = some (.slice A' m.links.length c') ∧ w1.drew.cell? ⟨b1, 9, none⟩ = some (.int .i64 m.min) ∧ w1.drew.cell? ⟨b1, 10, none⟩ = some (.int .i64 m.speed) ∧ w1.drew.cell? ⟨b1, 11, none⟩ = some (.int .i64 m.mode) ∧ w1.drew.cell? ⟨b1, 12, none⟩ = some (.int .i64 m.acc) ∧ w1.drew.cell? ⟨b1, 13, none⟩ = some (.bool m.whole) ∧ w1.drew.cell? ⟨b2, 0, none⟩ = some (.int .i64 n.kind) ∧ w1.drew.cell? ⟨b2, 1, none⟩ = some (.int .i64 n.fro) ∧ w1.drew.cell? ⟨b2, 2, none⟩ = some (.int .i64 n.to) ∧ w1.drew.cell? ⟨b2, 3, none⟩ = some (.int .i64 n.seq) ∧ w1.drew.cell? ⟨b2, 4, none⟩ = some (.int .i64 n.time) ∧ w1.drew.cell? ⟨b2, 5, none⟩ = some (.int .i64 n.aseq) ∧ w1.drew.cell? ⟨b2, 6, none⟩ = some (.int .i64 n.aend) ∧ w1.drew.cell? ⟨b2, 7, none⟩ = some (.slice B n.prof.length d) ∧ w1.drew.cell? ⟨b2, 8, none⟩ = some (.slice B' n.links.length d') ∧ w1.drew.cell? ⟨b2, 9, none⟩ = some (.int .i64 n.min) ∧ w1.drew.cell? ⟨b2, 10, none⟩ = some (.int .i64 n.speed) ∧ w1.drew.cell? ⟨b2, 11, none⟩ = some (.int .i64 n.mode) ∧ w1.drew.cell? ⟨b2, 12, none⟩ = some (.int .i64 n.acc) ∧ w1.drew.cell? ⟨b2, 13, none⟩ = some (.bool n.whole) ∧ Inv2 w b1 b2 m n A c A' c' B d B' d' w1.drew := ((inv2_of h).step (Below.refl _ _).drew).cells
theorem Inv2.start (hm : RdS cSeg w w.heap.size A m.prof) (hm' : RdS cLnk w w.heap.size A' m.links) (hn : RdS cSeg w w.heap.size B n.prof) (hn' : RdS cLnk w w.heap.size B' n.links) :
    Inv2 w w.heap.size (w.heap.size + 1) m n A c A' c' B d B' d' ((w.alloc (.cells #[.int .i64 m.kind, .int .i64 m.fro, .int .i64 m.to, .int .i64 m.seq, .int .i64 m.time, .int .i64 m.aseq, .int .i64 m.aend, .slice A m.prof.length c, .slice A' m.links.length c', .int .i64 m.min, .int .i64 m.speed, .int .i64 m.mode, .int .i64 m.acc, .bool m.whole] 69)).alloc (.cells #[.int .i64 n.kind, .int .i64 n.fro, .int .i64 n.to, .int .i64 n.seq, .int .i64 n.time, .int .i64 n.aseq, .int .i64 n.aend, .slice B n.prof.length d, .slice B' n.links.length d', .int .i64 n.min, .int .i64 n.speed, .int .i64 n.mode, .int .i64 n.acc, .bool n.whole] 69)) := by
  have hb : Below w.heap.size w ((w.alloc (.cells #[.int .i64 m.kind, .int .i64 m.fro, .int .i64 m.to, .int .i64 m.seq, .int .i64 m.time, .int .i64 m.aseq, .int .i64 m.aend, .slice A m.prof.length c, .slice A' m.links.length c', .int .i64 m.min, .int .i64 m.speed, .int .i64 m.mode, .int .i64 m.acc, .bool m.whole] 69)).alloc (.cells #[.int .i64 n.kind, .int .i64 n.fro, .int .i64 n.to, .int .i64 n.seq, .int .i64 n.time, .int .i64 n.aseq, .int .i64 n.aend, .slice B n.prof.length d, .slice B' n.links.length d', .int .i64 n.min, .int .i64 n.speed, .int .i64 n.mode, .int .i64 n.acc, .bool n.whole] 69)) := ((Below.refl _ _).alloc (Nat.le_refl _) _).alloc (by simp) _
  exact ⟨(Blk.new _ _ _ _ rfl).alloc _, Blk.new _ _ _ _ (by simp), hm.now hb, hm'.now hb, hn.now hb, hn'.now hb, hb, hb.size⟩
end
end Go.Proofs.Ytlpkkcodmoklaaa
