/- MessageDetects: for every argument. -/
import Derived.Test.YtlpkkcodmoklaaaMsgAlive
namespace Go.Proofs.Ytlpkkcodmoklaaa
set_option linter.unusedVariables false
set_option linter.unusedSimpArgs false
open Go.RowKit
attribute [local go_sem] bs_size bs_get bs_append bs_extract bs_toList
theorem and_65535 (a : Int) : ∃ m : Nat, m < 65536 ∧ bits .and .i64 a 65535 = (m : Int) := by
  refine ⟨(BitVec.ofInt 64 a &&& BitVec.ofInt 64 65535).toNat, ?_, ?_⟩
  · rw [BitVec.toNat_and]
    exact Nat.lt_of_le_of_lt Nat.and_le_right (by decide)
  · have h : (BitVec.ofInt 64 a &&& BitVec.ofInt 64 65535).toNat < 65536 := by
      rw [BitVec.toNat_and]
      exact Nat.lt_of_le_of_lt Nat.and_le_right (by decide)
    show IntKind.i64.wrap ((BitVec.ofInt 64 a &&& BitVec.ofInt 64 65535).toNat : Int) = _
    rw [IntKind.wrap_i64]
    omega
/-- The box of a message is there, its rows read as they did, and nothing that was there at first has turned. -/
structure Inv1 (w : World) (b1 : Nat) (m : Msg) (A : Option Addr) (c : Nat) (A' : Option Addr) (c' : Nat) (w' : World) : Prop where
  box1 : Blk w' b1 69 #[.int .i64 m.kind, .int .i64 m.fro, .int .i64 m.to, .int .i64 m.seq, .int .i64 m.time, .int .i64 m.aseq, .int .i64 m.aend, .slice A m.prof.length c, .slice A' m.links.length c', .int .i64 m.min, .int .i64 m.speed, .int .i64 m.mode, .int .i64 m.acc, .bool m.whole]
  m1 : RdS cSeg w' w'.heap.size A m.prof
  m2 : RdS cLnk w' w'.heap.size A' m.links
  below : Below w.heap.size w w'
  size : w.heap.size ≤ w'.heap.size
theorem Inv1.step {w w1 w2 : World} {b1 : Nat} {m : Msg} {A A' : Option Addr} {c c' : Nat} (h : Inv1 w b1 m A c A' c' w1) (hb : Below w1.heap.size w1 w2) : Inv1 w b1 m A c A' c' w2 :=
  ⟨h.box1.now hb, h.m1.now hb, h.m2.now hb, bel_then h.below h.size hb, Nat.le_trans h.size hb.size⟩
theorem Inv1.start {w : World} {m : Msg} {A A' : Option Addr} {c c' : Nat} (hm : RdS cSeg w w.heap.size A m.prof) (hm' : RdS cLnk w w.heap.size A' m.links) : Inv1 w w.heap.size m A c A' c' (w.alloc (.cells #[.int .i64 m.kind, .int .i64 m.fro, .int .i64 m.to, .int .i64 m.seq, .int .i64 m.time, .int .i64 m.aseq, .int .i64 m.aend, .slice A m.prof.length c, .slice A' m.links.length c', .int .i64 m.min, .int .i64 m.speed, .int .i64 m.mode, .int .i64 m.acc, .bool m.whole] 69)) := by
  have hb : Below w.heap.size w (w.alloc (.cells #[.int .i64 m.kind, .int .i64 m.fro, .int .i64 m.to, .int .i64 m.seq, .int .i64 m.time, .int .i64 m.aseq, .int .i64 m.aend, .slice A m.prof.length c, .slice A' m.links.length c', .int .i64 m.min, .int .i64 m.speed, .int .i64 m.mode, .int .i64 m.acc, .bool m.whole] 69)) := (Below.refl _ _).alloc (Nat.le_refl _) _
  exact ⟨Blk.new _ _ _ _ rfl, hm.now hb, hm'.now hb, hb, hb.size⟩
theorem zero_same : sameM Msg.zero Msg.zero = true := by decide +kernel
set_option maxRecDepth 100000 in
set_option maxHeartbeats 4000000 in
theorem messageDetects_no0 (m : Msg) (A : Option Addr) (c : Nat) (A' : Option Addr) (c' : Nat) (at' : Int) (ch : UInt8) (w : World) (om : m.Ok) (hm : RdS cSeg w w.heap.size A m.prof) (hm' : RdS cLnk w w.heap.size A' m.links) (h0 : fewB m = false) : Calls Try.prog 18 #[.agg #[.int .i64 m.kind, .int .i64 m.fro, .int .i64 m.to, .int .i64 m.seq, .int .i64 m.time, .int .i64 m.aseq, .int .i64 m.aend, .slice A m.prof.length c, .slice A' m.links.length c', .int .i64 m.min, .int .i64 m.speed, .int .i64 m.mode, .int .i64 m.acc, .bool m.whole], .int .i64 at', .int .u8 ch.toNat] w fun e w' => e = .returned (.bool true) ∧ Below w.heap.size w w' := by
  have e63 : maxLen ≤ 9223372036854775807 := by decide
  have lm : m.prof.length ≤ 9223372036854775807 := Nat.le_trans om.prof e63
  have lm' : m.links.length ≤ 9223372036854775807 := Nat.le_trans om.links e63
  clear e63
  have hI := Inv1.start (c := c) (c' := c') hm hm'
  clear hm hm'
  have H0 := Lib.hid h0
  clear h0
  go_enter Try.func18, Try.ntmps18
  go_wp2_with fail
  refine (few_any m A c A' c' _ lm lm').mono ?_
  rw [H0.out]
  rintro e w1 ⟨rfl, hb⟩
  have hI1 := hI.step hb
  clear hI hb
  go_wp2_with fail
  refine (alive37 _).mono ?_
  rintro e w9 ⟨rfl, hb⟩
  go_wp2_with fail
  go_ret
  exact ⟨rfl, (hI1.step hb).below⟩
set_option maxRecDepth 100000 in
set_option maxHeartbeats 4000000 in
theorem messageDetects_no1 (m : Msg) (A : Option Addr) (c : Nat) (A' : Option Addr) (c' : Nat) (at' : Int) (ch : UInt8) (w : World) (om : m.Ok) (hm : RdS cSeg w w.heap.size A m.prof) (hm' : RdS cLnk w w.heap.size A' m.links) (h0 : fewB m = true) (h1 : validB m = false) : Calls Try.prog 18 #[.agg #[.int .i64 m.kind, .int .i64 m.fro, .int .i64 m.to, .int .i64 m.seq, .int .i64 m.time, .int .i64 m.aseq, .int .i64 m.aend, .slice A m.prof.length c, .slice A' m.links.length c', .int .i64 m.min, .int .i64 m.speed, .int .i64 m.mode, .int .i64 m.acc, .bool m.whole], .int .i64 at', .int .u8 ch.toNat] w fun e w' => e = .returned (.bool true) ∧ Below w.heap.size w w' := by
  have e63 : maxLen ≤ 9223372036854775807 := by decide
  have lm : m.prof.length ≤ 9223372036854775807 := Nat.le_trans om.prof e63
  have lm' : m.links.length ≤ 9223372036854775807 := Nat.le_trans om.links e63
  clear e63
  have hI := Inv1.start (c := c) (c' := c') hm hm'
  clear hm hm'
  have H0 := Lib.hid h0
  have H1 := Lib.hid h1
  clear h0 h1
  go_enter Try.func18, Try.ntmps18
  go_wp2_with fail
  refine (few_any m A c A' c' _ lm lm').mono ?_
  rw [H0.out]
  rintro e w1 ⟨rfl, hb⟩
  have hI1 := hI.step hb
  clear hI hb
  have y0 := hI1.box1.cell 0
  have y1 := hI1.box1.cell 1
  have y2 := hI1.box1.cell 2
  have y3 := hI1.box1.cell 3
  have y4 := hI1.box1.cell 4
  have y5 := hI1.box1.cell 5
  have y6 := hI1.box1.cell 6
  have y7 := hI1.box1.cell 7
  have y8 := hI1.box1.cell 8
  have y9 := hI1.box1.cell 9
  have y10 := hI1.box1.cell 10
  have y11 := hI1.box1.cell 11
  have y12 := hI1.box1.cell 12
  have y13 := hI1.box1.cell 13
  simp only [List.getElem?_toArray, List.getElem?_cons_succ, List.getElem?_cons_zero] at y0 y1 y2 y3 y4 y5 y6 y7 y8 y9 y10 y11 y12 y13
  go_wp2_with fail
  refine (valid_any m A c A' c' _ lm lm' hI1.m1 hI1.m2).mono ?_
  rw [H1.out]
  rintro e w2 ⟨rfl, hb⟩
  have hI2 := hI1.step hb
  clear y0 y1 y2 y3 y4 y5 y6 y7 y8 y9 y10 y11 y12 y13
  clear hI1 hb
  go_wp2_with fail
  refine (alive37 _).mono ?_
  rintro e w9 ⟨rfl, hb⟩
  go_wp2_with fail
  go_ret
  exact ⟨rfl, (hI2.step hb).below⟩
set_option maxRecDepth 100000 in
set_option maxHeartbeats 4000000 in
theorem messageDetects_yes (m : Msg) (A : Option Addr) (c : Nat) (A' : Option Addr) (c' : Nat) (at' : Int) (ch : UInt8) (w : World) (om : m.Ok) (hm : RdS cSeg w w.heap.size A m.prof) (hm' : RdS cLnk w w.heap.size A' m.links) (h0 : fewB m = true) (h1 : validB m = true) : Calls Try.prog 18 #[.agg #[.int .i64 m.kind, .int .i64 m.fro, .int .i64 m.to, .int .i64 m.seq, .int .i64 m.time, .int .i64 m.aseq, .int .i64 m.aend, .slice A m.prof.length c, .slice A' m.links.length c', .int .i64 m.min, .int .i64 m.speed, .int .i64 m.mode, .int .i64 m.acc, .bool m.whole], .int .i64 at', .int .u8 ch.toNat] w fun e w' => e = .returned (.bool true) ∧ Below w.heap.size w w' := by
  have op := seg_oks hm
  have ol := lnk_oks hm'
  have HL := Lib.hid (encM_len h1 om op ol)
  have HC := Lib.hid (fun (i : Nat) (hi : i < (encM m).length) (hc : (encM m)[i] ≠ ch) => changed_dec h1 hi hc (encM_len h1 om op ol).1)
  clear op ol
  have e63 : maxLen ≤ 9223372036854775807 := by decide
  have lm : m.prof.length ≤ 9223372036854775807 := Nat.le_trans om.prof e63
  have lm' : m.links.length ≤ 9223372036854775807 := Nat.le_trans om.links e63
  clear e63
  have hI := Inv1.start (c := c) (c' := c') hm hm'
  clear hm hm'
  have H0 := Lib.hid h0
  have H1 := Lib.hid h1
  clear h0 h1
  go_enter Try.func18, Try.ntmps18
  go_wp2_with fail
  refine (few_any m A c A' c' _ lm lm').mono ?_
  rw [H0.out]
  rintro e w1 ⟨rfl, hb⟩
  have hI1 := hI.step hb
  clear hI hb
  have y0 := hI1.box1.cell 0
  have y1 := hI1.box1.cell 1
  have y2 := hI1.box1.cell 2
  have y3 := hI1.box1.cell 3
  have y4 := hI1.box1.cell 4
  have y5 := hI1.box1.cell 5
  have y6 := hI1.box1.cell 6
  have y7 := hI1.box1.cell 7
  have y8 := hI1.box1.cell 8
  have y9 := hI1.box1.cell 9
  have y10 := hI1.box1.cell 10
  have y11 := hI1.box1.cell 11
  have y12 := hI1.box1.cell 12
  have y13 := hI1.box1.cell 13
  simp only [List.getElem?_toArray, List.getElem?_cons_succ, List.getElem?_cons_zero] at y0 y1 y2 y3 y4 y5 y6 y7 y8 y9 y10 y11 y12 y13
  go_wp2_with fail
  refine (valid_any m A c A' c' _ lm lm' hI1.m1 hI1.m2).mono ?_
  rw [H1.out]
  rintro e w2 ⟨rfl, hb⟩
  have hI2 := hI1.step hb
  clear y0 y1 y2 y3 y4 y5 y6 y7 y8 y9 y10 y11 y12 y13
  clear hI1 hb
  have y0 := hI2.box1.cell 0
  have y1 := hI2.box1.cell 1
  have y2 := hI2.box1.cell 2
  have y3 := hI2.box1.cell 3
  have y4 := hI2.box1.cell 4
  have y5 := hI2.box1.cell 5
  have y6 := hI2.box1.cell 6
  have y7 := hI2.box1.cell 7
  have y8 := hI2.box1.cell 8
  have y9 := hI2.box1.cell 9
  have y10 := hI2.box1.cell 10
  have y11 := hI2.box1.cell 11
  have y12 := hI2.box1.cell 12
  have y13 := hI2.box1.cell 13
  simp only [List.getElem?_toArray, List.getElem?_cons_succ, List.getElem?_cons_zero] at y0 y1 y2 y3 y4 y5 y6 y7 y8 y9 y10 y11 y12 y13
  go_wp2_with fail
  refine (encode_any m A c A' c' _ om hI2.m1 hI2.m2).mono ?_
  rintro e w3 ⟨rfl, hb⟩
  have hI3 := hI2.step hb
  clear y0 y1 y2 y3 y4 y5 y6 y7 y8 y9 y10 y11 y12 y13
  clear hI2 hb
  obtain ⟨hl1, hl2⟩ := HL.out
  clear HL
  generalize encM m = t at hl1 hl2 HC
  obtain ⟨cap, w4, hcv, hcap, hb4, hsz, hcell, hfr⟩ := bytes_of (P := Try.prog) w3 t Try.underlying9 Try.underlying30 Try.underlying5
  have hI4 := hI3.step hb4
  have HZ := Lib.hid hsz
  clear hsz
  obtain ⟨q, hq, hand⟩ := and_65535 at'
  have hi : q % t.length < t.length := Nat.mod_lt _ (by omega)
  have hmod : ((q : Int) % (t.length : Int)) = ((q % t.length : Nat) : Int) := by omega
  generalize q % t.length = i at hi hmod
  have hci := hcell i t[i] (List.getElem?_eq_getElem hi)
  have hfi := hfr i hi
  by_cases hsame : t[i] = ch
  · have hcc : ((t[i].toNat : Int) == (ch.toNat : Int)) = true := by rw [hsame]; simp
    clear hcell hfr hsame
    go_wp2_with fail
    refine (alive37 _).mono ?_
    rintro e w9 ⟨rfl, hb⟩
    go_wp2_with fail
    go_ret
    exact ⟨rfl, (hI4.step hb).below⟩
  · have hcc : ((t[i].toNat : Int) == (ch.toNat : Int)) = false := by
      rw [beq_eq_false_iff_ne]
      intro e
      exact hsame (UInt8.toNat_inj.1 (by omega))
    have HD := Lib.hid (HC.out i hi hsame)
    have hcs : ∀ j x, (t.set i ch)[j]? = some x → (w4.setCell ⟨w3.heap.size, i, none⟩ (.int .u8 (ch.toNat : Int))).cell? ⟨w3.heap.size, j, none⟩ = some (.int .u8 (x.toNat : Int)) := by
      intro j x hj
      by_cases hji : i = j
      · subst hji
        rw [List.getElem?_set_self hi] at hj
        obtain rfl : ch = x := by simpa using hj
        exact World.cell?_setCell_same _ _ _ hci
      · rw [List.getElem?_set_ne hji] at hj
        rw [World.cell?_setCell_other _ _ _ _ (by intro e; exact hji (by injection e))]
        exact hcell j x hj
    have hcv2 := conv_cells (P := Try.prog) (w4.setCell ⟨w3.heap.size, i, none⟩ (.int .u8 (ch.toNat : Int))) Try.underlying30 Try.underlying5 Try.underlying9 w3.heap.size t.length cap (t.set i ch) (by simp) hcs
    have hlen2 : (t.set i ch).length ≤ 100000 := by rw [List.length_set]; omega
    have hI5 := hI3.step (hb4.setCell (Nat.le_refl _) _ : Below w3.heap.size w3 (w4.setCell ⟨w3.heap.size, i, none⟩ (.int .u8 (ch.toNat : Int))))
    clear hcs hcell hfr hsame hI3 hI4 hb4
    generalize t.set i ch = u at hcv2 hlen2 HD
    go_wp2_with fail
    refine (decode_any u _ hlen2).mono ?_
    rw [HD.out]
    rintro e w6 ⟨E, f, E', f', rfl, _, _, hb⟩
    have hI6 := hI5.step hb
    clear hI5 hb
    go_wp2_with fail
    refine (rSame_msg Msg.zero Msg.zero E f E' f' none 0 none 0 _ (by simp [Msg.zero]) (by simp [Msg.zero]) (RdS.nil _ _ _ _) (RdS.nil _ _ _ _) (by simp [Msg.zero]) (by simp [Msg.zero]) (RdS.nil _ _ _ _) (RdS.nil _ _ _ _)).mono ?_
    rw [zero_same]
    rintro e w7 ⟨rfl, hb⟩
    have hI7 := (hI6.step ((Below.refl _ _).alloc (Nat.le_refl _) _)).step hb
    go_wp2_with fail
    refine (alive37 _).mono ?_
    rintro e w9 ⟨rfl, hb⟩
    go_wp2_with fail
    go_ret
    exact ⟨rfl, (hI7.step hb).below⟩
theorem u8_of_wf {n : Int} (h : (Lit.int .u8 n).wf = true) : ∃ c : UInt8, n = (c.toNat : Int) := by
  simp [Lit.wf, IntKind.min, IntKind.max, IntKind.signed, IntKind.bits] at h
  refine ⟨UInt8.ofNat n.toNat, ?_⟩
  rw [UInt8.toNat_ofNat']
  omega
theorem messageDetects_walk (m : Msg) (A : Option Addr) (c : Nat) (A' : Option Addr) (c' : Nat) (at' : Int) (ch : Int) (w : World) (om : m.Ok) (hm : RdS cSeg w w.heap.size A m.prof) (hm' : RdS cLnk w w.heap.size A' m.links) (ha : I64n at') (hc : (Lit.int .u8 ch).wf = true) :
    Calls Try.prog 18 #[.agg #[.int .i64 m.kind, .int .i64 m.fro, .int .i64 m.to, .int .i64 m.seq, .int .i64 m.time, .int .i64 m.aseq, .int .i64 m.aend, .slice A m.prof.length c, .slice A' m.links.length c', .int .i64 m.min, .int .i64 m.speed, .int .i64 m.mode, .int .i64 m.acc, .bool m.whole], .int .i64 at', .int .u8 ch] w fun e w' => e = .returned (.bool true) ∧ Below w.heap.size w w' := by
  obtain ⟨x, rfl⟩ := u8_of_wf hc
  cases h0 : fewB m
  · exact messageDetects_no0 m A c A' c' at' x w om hm hm' h0
  · cases h1 : validB m
    · exact messageDetects_no1 m A c A' c' at' x w om hm hm' h0 h1
    · exact messageDetects_yes m A c A' c' at' x w om hm hm' h0 h1
end Go.Proofs.Ytlpkkcodmoklaaa
