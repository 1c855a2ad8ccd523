/- MessageDecodes: the reference's Decode of authorities, its plain law, and the law's walk. -/
import Derived.Test.YtlpkkcodmoklaaaMsgLaw
import Derived.Test.YtlpkkcodmoklaaaMsgAlive
import Derived.Test.YtlpkkcodmoklaaaMsgDecR
import Derived.Deep.Cut
namespace Go.Proofs.Ytlpkkcodmoklaaa
set_option linter.unusedVariables false
set_option linter.unusedSimpArgs false
section MsgLawR
open Wire (Part part_join)
theorem refI_fwd (t : List UInt8) : Fwd t (refI t) (fun p => p) := by
  intro P n Q e hn
  have h := Wire.takeI_enc P Q n hn
  rw [List.append_assoc, ← e] at h
  simp [refI, h]
theorem refC_fwd (t : List UInt8) : FwdC t (refC t) (fun p => p) 200 := by
  intro P n Q e hn hq
  have h := Wire.takeC_enc P Q n 200 (by omega) (by omega) hq
  rw [List.append_assoc, ← e] at h
  simp [refC, h]
theorem looseA_eq (t : List UInt8) (s : Int) : looseA t s = authG (refI t) (refC t) (refC t) s := rfl
/-- The reference reads a valid message from its contents. -/
theorem loose_cont {m : Msg} (hv : validB m = true) (hm : m.Ok) (hp : ∀ s ∈ m.prof, Seg.ok s) (hl : ∀ s ∈ m.links, Lnk.ok s) : looseM (cont m) = m := by
  obtain ⟨v1, v2, v3, v4⟩ := valid_parts hv
  generalize ht : cont m = t
  have hF := refI_fwd t
  obtain ⟨R, e⟩ : ∃ R, t = headE m ++ R ∧ R = (if carB m.kind then authE m else []) ++ (if m.kind == 1 then repE m else []) := ⟨_, by rw [← ht, cont, List.append_assoc], rfl⟩
  obtain ⟨e, hR⟩ := e
  rw [headE_eq] at e
  have h1 := hF [] m.kind (Wire.encI m.fro ++ (Wire.encI m.to ++ (Wire.encI m.seq ++ (Wire.encI m.time ++ R)))) (by rw [e]; simp) hm.kind
  have h2 := hF (Wire.encI m.kind) m.fro (Wire.encI m.to ++ (Wire.encI m.seq ++ (Wire.encI m.time ++ R))) (by rw [e]; simp) hm.fro
  have h3 := hF (Wire.encI m.kind ++ Wire.encI m.fro) m.to (Wire.encI m.seq ++ (Wire.encI m.time ++ R)) (by rw [e]; simp) hm.to
  have h4 := hF (Wire.encI m.kind ++ Wire.encI m.fro ++ Wire.encI m.to) m.seq (Wire.encI m.time ++ R) (by rw [e]; simp) hm.seq
  have h5 := hF (Wire.encI m.kind ++ Wire.encI m.fro ++ Wire.encI m.to ++ Wire.encI m.seq) m.time R (by rw [e]; simp) hm.time
  simp only [List.length_nil, List.nil_append] at h1
  rw [show (((0 : Nat) : Int)) = 0 from rfl] at h1
  generalize hH : Wire.encI m.kind ++ Wire.encI m.fro ++ Wire.encI m.to ++ Wire.encI m.seq ++ Wire.encI m.time = H at h5
  have eH : t = H ++ R := by rw [e, ← hH]; simp
  cases hc : carB m.kind with
  | true =>
    have hk := car_not_rep hc
    rw [hc, hk] at hR
    simp only [if_true, Bool.false_eq_true, if_false, List.append_nil] at hR
    have h6 := authG_fwd hF (refC_fwd t) (refC_fwd t) m hm hp hl (by omega) (by omega) H [] (by rw [eH, hR]; simp)
    obtain ⟨w1, w2, w3, w4, w5⟩ := v4 hk
    unfold looseM
    simp only [h1, h2, h3, h4, h5, hc, hk, if_true, Bool.false_eq_true, if_false, looseA_eq, h6]
    clear h1 h2 h3 h4 h5 h6 ht hH e hR eH
    cases m; simp only at w1 w2 w3 w4 w5; subst w1 w2 w3 w4 w5; rfl
  | false =>
    obtain ⟨u1, u2, u3, u4⟩ := v3 hc
    cases hk : m.kind == 1 with
    | true =>
      rw [hc, hk] at hR
      simp only [if_true, Bool.false_eq_true, if_false, List.nil_append] at hR
      rw [repE_eq] at hR
      rw [hR] at eH
      have g1 := hF H m.min (Wire.encI m.speed ++ (Wire.encI m.mode ++ (Wire.encI m.acc ++ Wire.encB m.whole))) (by rw [eH]) hm.min
      have g2 := hF (H ++ Wire.encI m.min) m.speed (Wire.encI m.mode ++ (Wire.encI m.acc ++ Wire.encB m.whole)) (by rw [eH]; simp) hm.speed
      have g3 := hF (H ++ Wire.encI m.min ++ Wire.encI m.speed) m.mode (Wire.encI m.acc ++ Wire.encB m.whole) (by rw [eH]; simp) hm.mode
      have g4 := hF (H ++ Wire.encI m.min ++ Wire.encI m.speed ++ Wire.encI m.mode) m.acc (Wire.encB m.whole) (by rw [eH]; simp) hm.acc
      generalize hG : H ++ Wire.encI m.min ++ Wire.encI m.speed ++ Wire.encI m.mode ++ Wire.encI m.acc = G at g4
      have eG : t = G ++ Wire.encB m.whole := by rw [eH, ← hG]; simp
      have g5 : (decide ((G.length : Int) < (t.length : Int)) && decide ((t.getD (G.length : Int).toNat 0).toNat = 1)) = m.whole := by
        rw [eG]
        cases m.whole <;> simp [Wire.encB] <;> omega
      unfold looseM looseR
      simp only [h1, h2, h3, h4, h5, hc, hk, if_true, Bool.false_eq_true, if_false, g1, g2, g3, g4, g5]
      cases m; simp only at u1 u2 u3 u4; subst u1 u2 u3 u4; rfl
    | false =>
      obtain ⟨w1, w2, w3, w4, w5⟩ := v4 hk
      unfold looseM
      simp only [h1, h2, h3, h4, h5, hc, hk, Bool.false_eq_true, if_false]
      clear h1 h2 h3 h4 h5 ht hH e hR eH
      cases m; simp only at w1 w2 w3 w4 w5 u1 u2 u3 u4; subst w1 w2 w3 w4 w5 u1 u2 u3 u4; rfl
/-- The program and the reference decode alike. -/
theorem dec_same (s : List UInt8) : decP s = decR s := by
  by_cases ho : (openV s).2 = 0
  · obtain ⟨_, hs⟩ := openV_ok ho
    by_cases hp : (decP s).2 = 0
    · obtain ⟨hv, he⟩ := dec_exact hp
      obtain ⟨k1, k2, k3⟩ := decP_ok s
      have hL := loose_cont hv k1 k2 k3
      have hb : cont (decP s).1 = Crc.body s := by
        have : encM (decP s).1 = Crc.sealed (cont (decP s).1) := by unfold encM; rw [if_pos hv]
        rw [← Crc.body_sealed (cont (decP s).1), ← this, he]
      rw [hb] at hL
      have : decR s = (looseM (Crc.body s), 0) := by
        unfold decR
        rw [if_neg (by simpa using ho), hL, if_neg (by rw [he]; simp)]
      rw [this, hL, ← hp]
    · have h0 : decP s = (Msg.zero, 6) := by
        unfold decP at hp ⊢
        rw [if_neg (by simpa using ho)] at hp ⊢
        split
        · rfl
        · rename_i hn
          rw [if_neg hn] at hp
          exact absurd rfl hp
      rw [h0]
      unfold decR
      rw [if_neg (by simpa using ho)]
      by_cases hE : encM (looseM (Crc.body s)) = s
      · exfalso
        have hv : validB (looseM (Crc.body s)) = true := by
          cases hv : validB (looseM (Crc.body s)) with
          | true => rfl
          | false =>
            unfold encM at hE
            rw [hv] at hE
            simp only [Bool.false_eq_true, if_false] at hE
            have := congrArg List.length hs
            rw [Crc.sealed_length, ← hE] at this
            simp at this
        obtain ⟨k1, k2, k3⟩ := looseM_ok (Crc.body s)
        have := dec_enc hv k1 k2 k3
        rw [hE] at this
        rw [this] at hp
        exact hp rfl
      · rw [if_pos hE]
  · unfold decP decR
    rw [if_pos ho, if_pos ho]
end MsgLawR
section MsgDecJ
open Go.RowKit
attribute [local go_sem] bs_size bs_get bs_append bs_extract bs_toList
set_option maxRecDepth 100000 in
set_option maxHeartbeats 8000000 in
theorem rdecode_auth2 (l : List UInt8) (w : World) (hs : l.length ≤ 100000) (ho : (openV l).2 = 0) (k1 : ((refI (Crc.body l) 0).1 == 1) = false) (k2 : carB (refI (Crc.body l) 0).1 = true) (k3 : ((refI (Crc.body l) 0).1 == 2) = true) (k4 : ((refI (Crc.body l) 0).1 == 3) = false) :
    Calls Try.prog 66 #[.string (bs l)] w fun e w' => DecOut w (decR l) e w' := by
  obtain ⟨i0, hi, iz, isz, iby⟩ := info_parts info100
  obtain ⟨j0, hj, jz, jsz, jby⟩ := info_parts info77
  obtain ⟨ho1, ho2⟩ := openV_ok ho
  have HB := Lib.hid ho2
  clear ho2 ho
  have hbl := body_len l
  have hok := looseM_ok (Crc.body l)
  have hdef : decR l = if encM (looseM (Crc.body l)) ≠ l then (Msg.zero, 6) else (looseM (Crc.body l), 0) := by
    unfold decR
    rw [ho1]
    rfl
  have HDEF := Lib.hid hdef
  clear hdef
  have hrA : (w.alloc (.cells #[.int .i64 0, .int .i64 0, .int .i64 0, .int .i64 0, .int .i64 0, .int .i64 0, .int .i64 0, .slice none 0 0, .slice none 0 0, .int .i64 0, .int .i64 0, .int .i64 0, .int .i64 0, .bool false] 69)).heap[w.heap.size]? = some (.cells #[.int .i64 0, .int .i64 0, .int .i64 0, .int .i64 0, .int .i64 0, .int .i64 0, .int .i64 0, .slice none 0 0, .slice none 0 0, .int .i64 0, .int .i64 0, .int .i64 0, .int .i64 0, .bool false] 69 (0, 0)) := heap_alloc_new _ _
  have hBA : Below w.heap.size w (w.alloc (.cells #[.int .i64 0, .int .i64 0, .int .i64 0, .int .i64 0, .int .i64 0, .int .i64 0, .int .i64 0, .slice none 0 0, .slice none 0 0, .int .i64 0, .int .i64 0, .int .i64 0, .int .i64 0, .bool false] 69)) := (Below.refl _ _).alloc (Nat.le_refl _) _
  have hzA : (w.alloc (.cells #[.int .i64 0, .int .i64 0, .int .i64 0, .int .i64 0, .int .i64 0, .int .i64 0, .int .i64 0, .slice none 0 0, .slice none 0 0, .int .i64 0, .int .i64 0, .int .i64 0, .int .i64 0, .bool false] 69)).heap.size = w.heap.size + 1 := World.size_alloc _ _
  go_enter Try.func66, Try.ntmps66
  go_wp2_with fail
  refine (rOpen_any l _ hs).mono ?_
  rintro e w1 ⟨rfl, hb1⟩
  have hr1 := (hb1.block w.heap.size (by omega)).trans hrA
  have hz1 := hb1.size
  have hB1 := bthru (w := w) hb1 hBA
  generalize hwA : (w.alloc (.cells #[.int .i64 0, .int .i64 0, .int .i64 0, .int .i64 0, .int .i64 0, .int .i64 0, .int .i64 0, .slice none 0 0, .slice none 0 0, .int .i64 0, .int .i64 0, .int .i64 0, .int .i64 0, .bool false] 69)) = wA at *
  clear hrA hBA hb1 hwA
  rw [ho1]
  go_wp2_with fail
  generalize hT : Crc.body l = T at *
  have hrd : RdrR w1.heap.size T 0 (w1.alloc (.cells #[.string (bs T), .int .i64 0] 109)) := ⟨heap_alloc_new _ _, by omega, by omega⟩
  have hw2 := (Below.refl w1.heap.size w1).alloc (Nat.le_refl _) (.cells #[.string (bs T), .int .i64 0] 109)
  have hz2 : (w1.alloc (.cells #[.string (bs T), .int .i64 0] 109)).heap.size = w1.heap.size + 1 := World.size_alloc _ _
  generalize hwb : w1.alloc (.cells #[.string (bs T), .int .i64 0] 109) = wb at *
  generalize hrbn : w1.heap.size = rb at *
  refine (rint_any rb T 0 _ hrd (by omega)).mono ?_
  rintro e u1 ⟨rfl, hq1, ho1⟩
  go_wp2_with fail
  refine (rint_any rb T _ _ hq1 (by omega)).mono ?_
  rintro e u2 ⟨rfl, hq2, ho2⟩
  go_wp2_with fail
  refine (rint_any rb T _ _ hq2 (by omega)).mono ?_
  rintro e u3 ⟨rfl, hq3, ho3⟩
  go_wp2_with fail
  refine (rint_any rb T _ _ hq3 (by omega)).mono ?_
  rintro e u4 ⟨rfl, hq4, ho4⟩
  go_wp2_with fail
  refine (rint_any rb T _ _ hq4 (by omega)).mono ?_
  rintro e u5 ⟨rfl, hq5, ho5⟩
  go_upto_region 9 with (fail)
  have hO5 : Only rb wb u5 := (((ho1.trans ho2).trans ho3).trans ho4).trans ho5
  have hz5 := hO5.size
  clear ho1 ho2 ho3 ho4 ho5 hq1 hq2 hq3 hq4 hrd
  generalize hx1 : (refI T 0).1 = x1 at *
  generalize hx2 : (refI T (refI T 0).2).1 = x2 at *
  generalize hx3 : (refI T (refI T (refI T 0).2).2).1 = x3 at *
  generalize hx4 : (refI T (refI T (refI T (refI T 0).2).2).2).1 = x4 at *
  generalize hx5 : (refI T (refI T (refI T (refI T (refI T 0).2).2).2).2).1 = x5 at *
  generalize hs5 : (refI T (refI T (refI T (refI T (refI T 0).2).2).2).2).2 = s5 at *
  have HX1 := Lib.hid hx1
  have HX2 := Lib.hid hx2
  have HX3 := Lib.hid hx3
  have HX4 := Lib.hid hx4
  have HX5 := Lib.hid hx5
  have HS5 := Lib.hid hs5
  clear hx1 hx2 hx3 hx4 hx5 hs5
  have hM : (u5.alloc (.cells #[.int .i64 x1, .int .i64 x2, .int .i64 x3, .int .i64 x4, .int .i64 x5, .int .i64 0, .int .i64 0, .slice none 0 0, .slice none 0 0, .int .i64 0, .int .i64 0, .int .i64 0, .int .i64 0, .bool false] 69)).heap[u5.heap.size]? = some (.cells #[.int .i64 x1, .int .i64 x2, .int .i64 x3, .int .i64 x4, .int .i64 x5, .int .i64 0, .int .i64 0, .slice none 0 0, .slice none 0 0, .int .i64 0, .int .i64 0, .int .i64 0, .int .i64 0, .bool false] 69 (0, 0)) := heap_alloc_new _ _
  have hO6 : Only rb wb (u5.alloc (.cells #[.int .i64 x1, .int .i64 x2, .int .i64 x3, .int .i64 x4, .int .i64 x5, .int .i64 0, .int .i64 0, .slice none 0 0, .slice none 0 0, .int .i64 0, .int .i64 0, .int .i64 0, .int .i64 0, .bool false] 69)) := hO5.trans (Only.of_below ((Below.refl _ _).alloc (Nat.le_refl _) _))
  have hr6 : RdrR rb T s5 (u5.alloc (.cells #[.int .i64 x1, .int .i64 x2, .int .i64 x3, .int .i64 x4, .int .i64 x5, .int .i64 0, .int .i64 0, .slice none 0 0, .slice none 0 0, .int .i64 0, .int .i64 0, .int .i64 0, .int .i64 0, .bool false] 69)) := hq5.alloc _
  have hz6 : (u5.alloc (.cells #[.int .i64 x1, .int .i64 x2, .int .i64 x3, .int .i64 x4, .int .i64 x5, .int .i64 0, .int .i64 0, .slice none 0 0, .slice none 0 0, .int .i64 0, .int .i64 0, .int .i64 0, .int .i64 0, .bool false] 69)).heap.size = u5.heap.size + 1 := World.size_alloc _ _
  generalize hw6 : u5.alloc (.cells #[.int .i64 x1, .int .i64 x2, .int .i64 x3, .int .i64 x4, .int .i64 x5, .int .i64 0, .int .i64 0, .slice none 0 0, .slice none 0 0, .int .i64 0, .int .i64 0, .int .i64 0, .int .i64 0, .bool false] 69) = w6 at *
  generalize hmb : u5.heap.size = mb at *
  clear hq5 hO5 hw6 hmb
  have m0 := Lib.cell_of_heap hM 0
  simp only [List.getElem?_toArray, List.getElem?_cons_zero] at m0
  go_wp2_with fail
  refine (rint_any rb T s5 _ hr6 (by omega)).mono ?_
  rintro e v1 ⟨rfl, hq1, ho1⟩
  go_wp2_with fail
  refine (rint_any rb T _ _ hq1 (by omega)).mono ?_
  rintro e v2 ⟨rfl, hq2, ho2⟩
  have hO7 : Only rb w6 v2 := ho1.trans ho2
  have hM7 := (hO7.block mb (heap_lt hM) (by omega)).trans hM
  have hz7 := hO7.size
  clear ho1 ho2 hq1
  generalize hy1 : (refI T s5).1 = y1 at *
  generalize hy2 : (refI T (refI T s5).2).1 = y2 at *
  generalize hs6 : (refI T (refI T s5).2).2 = s6 at *
  have HY1 := Lib.hid hy1
  have HY2 := Lib.hid hy2
  have HS6 := Lib.hid hs6
  clear hy1 hy2 hs6
  have g5 := Lib.cell_of_heap hM7 5
  have gf5 := Lib.frozen_of_heap hM7 5
  have g6 := Lib.cell_of_heap hM7 6
  have gf6 := Lib.frozen_of_heap hM7 6
  have g7 := Lib.cell_of_heap hM7 7
  have gf7 := Lib.frozen_of_heap hM7 7
  have g8 := Lib.cell_of_heap hM7 8
  have gf8 := Lib.frozen_of_heap hM7 8
  simp only [List.getElem?_toArray, List.getElem?_cons_succ, List.getElem?_cons_zero] at g5 g6 g7 g8
  go_upto_region 11 with (fail)
  have hM8 : ((((v2.setCell ⟨mb, 5, none⟩ (.int .i64 y1)).setCell ⟨mb, 6, none⟩ (.int .i64 y2)).setCell ⟨mb, 7, none⟩ (.slice none 0 0)).setCell ⟨mb, 8, none⟩ (.slice none 0 0)).heap[mb]? = some (.cells (MB (x1, x2, x3, x4, x5, y1, y2) (.slice none 0 0) (.slice none 0 0)) 69 (0, 0)) := by
    have := (heap_set _ _ 8 (.slice none 0 0) _ _ _ (heap_set _ _ 7 (.slice none 0 0) _ _ _ (heap_set _ _ 6 (.int .i64 y2) _ _ _ (heap_set _ _ 5 (.int .i64 y1) _ _ _ hM7))))
    simpa [MB] using this
  have hO8 : Only rb wb ((((v2.setCell ⟨mb, 5, none⟩ (.int .i64 y1)).setCell ⟨mb, 6, none⟩ (.int .i64 y2)).setCell ⟨mb, 7, none⟩ (.slice none 0 0)).setCell ⟨mb, 8, none⟩ (.slice none 0 0)) := (only_new (only_new (only_new (only_new (hO6.trans hO7) (by omega) _ _) (by omega) _ _) (by omega) _ _) (by omega) _ _)
  have hr8 : RdrR rb T s6 ((((v2.setCell ⟨mb, 5, none⟩ (.int .i64 y1)).setCell ⟨mb, 6, none⟩ (.int .i64 y2)).setCell ⟨mb, 7, none⟩ (.slice none 0 0)).setCell ⟨mb, 8, none⟩ (.slice none 0 0)) := ⟨((Below.heap_setCell _ _ _ _ (show rb ≠ mb by omega)).trans ((Below.heap_setCell _ _ _ _ (show rb ≠ mb by omega)).trans ((Below.heap_setCell _ _ _ _ (show rb ≠ mb by omega)).trans ((Below.heap_setCell _ _ _ _ (show rb ≠ mb by omega)).trans hq2.1)))), hq2.2⟩
  generalize hWz : ((((v2.setCell ⟨mb, 5, none⟩ (.int .i64 y1)).setCell ⟨mb, 6, none⟩ (.int .i64 y2)).setCell ⟨mb, 7, none⟩ (.slice none 0 0)).setCell ⟨mb, 8, none⟩ (.slice none 0 0)) = wz at *
  clear hWz
  have hab : wb.heap.size ≤ mb := by omega
  have hI8 : MInv wb rb mb (x1, x2, x3, x4, x5, y1, y2) (.slice none 0 0) [] (.slice none 0 0) [] wz := ⟨hM8, World.ownsRow_nil _ _ _ _, World.ownsRow_nil _ _ _ _, hO8⟩
  have hrm : rb < mb := by omega
  clear hM7 hM8 hO7 hO8 hq2 g5 g6 g7 g8 gf5 gf6 gf7 gf8 hO6 hr6 hM m0
  go_wp2_with fail
  refine (rcount_any rb T s6 _ hr8 (by omega)).mono ?_
  rintro e w9 ⟨rfl, hr9, ho9⟩
  have hI9 := hI8.step ho9 hrm
  have hn1 := refC_le T s6
  generalize hn : (refC T s6).1 = n at *
  generalize hs7 : (refC T s6).2 = s7 at *
  have HN := Lib.hid hn
  have HS7 := Lib.hid hs7
  clear hn hs7 hI8 hr8 ho9
  go_wp2_with fail
  go_loopw [8] (fun i wr => ∃ (k : Nat) (acc : List Seg) (st : Int) (v : Value), k ≤ n ∧ acc.length + k = n ∧ i = .int .i64 k ∧ RdrR rb T st wr ∧ MInv wb rb mb (x1, x2, x3, x4, x5, y1, y2) v acc (.slice none 0 0) [] wr ∧ segN (refI T) n s7 [] = segN (refI T) k st acc) (fun i _ => (intOf i).toNat)
  case atStart => exact ⟨n, [], s7, _, by omega, by simp, rfl, hr9, hI9, rfl⟩
  case round =>
    obtain ⟨k, acc, st, v, hk, hacc, rfl, hr, hI, hseg⟩ := hrel
    rcases k with _ | j
    · have hne : acc.length = n := by omega
      have HSG := Lib.hid (show segN (refI T) n s7 [] = (acc, st) from hseg)
      clear hseg
      go_wp2_with fail
      refine (rcount_any rb T st _ hr (by omega)).mono ?_
      rintro e w10 ⟨rfl, hr10, ho10⟩
      have hI10 := hI.step ho10 hrm
      have hn2 := refC_le T st
      generalize hnn : (refC T st).1 = n2 at *
      generalize hs8 : (refC T st).2 = s8 at *
      have HN2 := Lib.hid hnn
      have HS8 := Lib.hid hs8
      clear hnn hs8 hI hr ho10 hI9 hr9
      go_wp2_with fail
      go_loopw [9] (fun i wr => ∃ (k : Nat) (acc2 : List Lnk) (st2 : Int) (v2 : Value), k ≤ n2 ∧ acc2.length + k = n2 ∧ i = .int .i64 k ∧ RdrR rb T st2 wr ∧ MInv wb rb mb (x1, x2, x3, x4, x5, y1, y2) v acc v2 acc2 wr ∧ lnkN (refI T) n2 s8 [] = lnkN (refI T) k st2 acc2) (fun i _ => (intOf i).toNat)
      case atStart => exact ⟨n2, [], s8, _, by omega, by simp, rfl, hr10, hI10, rfl⟩
      case round =>
        clear hI10 hr10
        obtain ⟨k, acc2, st2, v2, hk2, hacc2, rfl, hr, hI, hlnk⟩ := hrel
        rcases k with _ | j
        · have HLK := Lib.hid (show lnkN (refI T) n2 s8 [] = (acc2, st2) from hlnk)
          clear hlnk
          have hm : (⟨x1, x2, x3, x4, x5, y1, y2, acc, acc2, 0, 0, 0, 0, false⟩ : Msg) = looseM T := by
            have hA : looseA T s5 = ((y1, y2, acc, acc2), st2) := by
              unfold looseA
              simp only [HY1.out, HY2.out, HS6.out, HN.out, HS7.out, HSG.out, HN2.out, HS8.out, HLK.out]
            simp only [looseM, HX1.out, HX2.out, HX3.out, HX4.out, HX5.out, HS5.out, k1, k2, hA, if_true, Bool.false_eq_true, if_false]
          have hBw : Below w.heap.size w wr := hI.only.below (hB1.trans (hw2.mono (by omega))) (by omega) (by omega)
          obtain ⟨v, v2, base, hRI⟩ : ∃ v v2 base, RInv w mb (looseM T) v v2 base wr := by
            rw [← hm]
            exact ⟨v, v2, mb + 1, hI.box, hI.own, hI.own2, (hI.only.block _ (by omega) (by omega)).trans ((hw2.block _ (by omega)).trans hr1), by omega, by omega, hBw⟩
          have hkd : (looseM T).kind = x1 := by rw [← hm]
          have k1' : ((looseM T).kind == 1) = false := by rw [hkd]; exact k1
          have k3' : ((looseM T).kind == 2) = true := by rw [hkd]; exact k3
          have k4' : ((looseM T).kind == 3) = false := by rw [hkd]; exact k4
          clear hm hkd
          generalize looseM T = m at *
          clear hr1 hB1 hw2 hr hI hBw k1 k2 k3 k4 hacc hacc2 hne
          obtain ⟨A, c, rfl, hp7⟩ := rdS_own (n := 4) (cells := Seg.cells) (ok := Seg.ok) (hn := fun _ => rfl) hRI.own hok.2.1
          obtain ⟨A', c', rfl, hl7⟩ := rdS_own (n := 2) (cells := Lnk.cells) (ok := Lnk.ok) (hn := fun _ => rfl) hRI.own2 hok.2.2
          have c0 := Lib.cell_of_heap hRI.box 0
          have c1 := Lib.cell_of_heap hRI.box 1
          have c2 := Lib.cell_of_heap hRI.box 2
          have c3 := Lib.cell_of_heap hRI.box 3
          have c4 := Lib.cell_of_heap hRI.box 4
          have c5 := Lib.cell_of_heap hRI.box 5
          have c6 := Lib.cell_of_heap hRI.box 6
          have c7 := Lib.cell_of_heap hRI.box 7
          have c8 := Lib.cell_of_heap hRI.box 8
          have c9 := Lib.cell_of_heap hRI.box 9
          have c10 := Lib.cell_of_heap hRI.box 10
          have c11 := Lib.cell_of_heap hRI.box 11
          have c12 := Lib.cell_of_heap hRI.box 12
          have c13 := Lib.cell_of_heap hRI.box 13
          simp only [List.getElem?_toArray, List.getElem?_cons_succ, List.getElem?_cons_zero] at c0 c1 c2 c3 c4 c5 c6 c7 c8 c9 c10 c11 c12 c13
          go_wp2_with fail
          refine (rEncode_any m A c A' c' _ hok.1 hp7 hl7).mono ?_
          rintro e w8 ⟨rfl, hb8⟩
          have hlow := hRI.lowb
          have hlow2 := hRI.low
          have hres8 := (hb8.block w.heap.size (Nat.lt_of_lt_of_le (heap_lt hRI.res) (Nat.le_refl _))).trans hRI.res
          have hbox8 := (hb8.block mb (heap_lt hRI.box)).trans hRI.box
          have hB8 := bthru (w := w) hb8 hRI.below
          have n1 := own_only hRI.own (Only.of_below (rb := w.heap.size) hb8) hlow2
          have n2 := own_only hRI.own2 (Only.of_below (rb := w.heap.size) hb8) hlow2
          clear c0 c1 c2 c3 c4 c5 c6 c7 c8 c9 c10 c11 c12 c13
          have d0 := Lib.cell_of_heap hres8 0
          have df0 := Lib.frozen_of_heap hres8 0
          have d1 := Lib.cell_of_heap hres8 1
          have df1 := Lib.frozen_of_heap hres8 1
          have d2 := Lib.cell_of_heap hres8 2
          have df2 := Lib.frozen_of_heap hres8 2
          have d3 := Lib.cell_of_heap hres8 3
          have df3 := Lib.frozen_of_heap hres8 3
          have d4 := Lib.cell_of_heap hres8 4
          have df4 := Lib.frozen_of_heap hres8 4
          have d5 := Lib.cell_of_heap hres8 5
          have df5 := Lib.frozen_of_heap hres8 5
          have d6 := Lib.cell_of_heap hres8 6
          have df6 := Lib.frozen_of_heap hres8 6
          have d7 := Lib.cell_of_heap hres8 7
          have df7 := Lib.frozen_of_heap hres8 7
          have d8 := Lib.cell_of_heap hres8 8
          have df8 := Lib.frozen_of_heap hres8 8
          have d9 := Lib.cell_of_heap hres8 9
          have df9 := Lib.frozen_of_heap hres8 9
          have d10 := Lib.cell_of_heap hres8 10
          have df10 := Lib.frozen_of_heap hres8 10
          have d11 := Lib.cell_of_heap hres8 11
          have df11 := Lib.frozen_of_heap hres8 11
          have d12 := Lib.cell_of_heap hres8 12
          have df12 := Lib.frozen_of_heap hres8 12
          have d13 := Lib.cell_of_heap hres8 13
          have df13 := Lib.frozen_of_heap hres8 13
          simp only [List.getElem?_toArray, List.getElem?_cons_succ, List.getElem?_cons_zero] at d0 d1 d2 d3 d4 d5 d6 d7 d8 d9 d10 d11 d12 d13
          by_cases he : encM m = l
          · have he1 : (encM m == l) = true := by simp [he]
            have he2 : (encM m != l) = false := by simp [he]
            have HE := Lib.hid he
            clear he
            have g0 := Lib.cell_of_heap hbox8 0
            have g1 := Lib.cell_of_heap hbox8 1
            have g2 := Lib.cell_of_heap hbox8 2
            have g3 := Lib.cell_of_heap hbox8 3
            have g4 := Lib.cell_of_heap hbox8 4
            have g5 := Lib.cell_of_heap hbox8 5
            have g6 := Lib.cell_of_heap hbox8 6
            have g7 := Lib.cell_of_heap hbox8 7
            have g8 := Lib.cell_of_heap hbox8 8
            have g9 := Lib.cell_of_heap hbox8 9
            have g10 := Lib.cell_of_heap hbox8 10
            have g11 := Lib.cell_of_heap hbox8 11
            have g12 := Lib.cell_of_heap hbox8 12
            have g13 := Lib.cell_of_heap hbox8 13
            simp only [List.getElem?_toArray, List.getElem?_cons_succ, List.getElem?_cons_zero] at g0 g1 g2 g3 g4 g5 g6 g7 g8 g9 g10 g11 g12 g13
            go_wp2_with fail
            have hW : ((((((((((((((w8.setCell ⟨w.heap.size, 0, none⟩ (.int .i64 m.kind)).setCell ⟨w.heap.size, 1, none⟩ (.int .i64 m.fro)).setCell ⟨w.heap.size, 2, none⟩ (.int .i64 m.to)).setCell ⟨w.heap.size, 3, none⟩ (.int .i64 m.seq)).setCell ⟨w.heap.size, 4, none⟩ (.int .i64 m.time)).setCell ⟨w.heap.size, 5, none⟩ (.int .i64 m.aseq)).setCell ⟨w.heap.size, 6, none⟩ (.int .i64 m.aend)).setCell ⟨w.heap.size, 7, none⟩ (.slice A m.prof.length c)).setCell ⟨w.heap.size, 8, none⟩ (.slice A' m.links.length c')).setCell ⟨w.heap.size, 9, none⟩ (.int .i64 m.min)).setCell ⟨w.heap.size, 10, none⟩ (.int .i64 m.speed)).setCell ⟨w.heap.size, 11, none⟩ (.int .i64 m.mode)).setCell ⟨w.heap.size, 12, none⟩ (.int .i64 m.acc)).setCell ⟨w.heap.size, 13, none⟩ (.bool m.whole)).heap[w.heap.size]? = some (.cells #[.int .i64 m.kind, .int .i64 m.fro, .int .i64 m.to, .int .i64 m.seq, .int .i64 m.time, .int .i64 m.aseq, .int .i64 m.aend, .slice A m.prof.length c, .slice A' m.links.length c', .int .i64 m.min, .int .i64 m.speed, .int .i64 m.mode, .int .i64 m.acc, .bool m.whole] 69 (0, 0)) := by
              have := (heap_set _ _ 13 (.bool m.whole) _ _ _ (heap_set _ _ 12 (.int .i64 m.acc) _ _ _ (heap_set _ _ 11 (.int .i64 m.mode) _ _ _ (heap_set _ _ 10 (.int .i64 m.speed) _ _ _ (heap_set _ _ 9 (.int .i64 m.min) _ _ _ (heap_set _ _ 8 (.slice A' m.links.length c') _ _ _ (heap_set _ _ 7 (.slice A m.prof.length c) _ _ _ (heap_set _ _ 6 (.int .i64 m.aend) _ _ _ (heap_set _ _ 5 (.int .i64 m.aseq) _ _ _ (heap_set _ _ 4 (.int .i64 m.time) _ _ _ (heap_set _ _ 3 (.int .i64 m.seq) _ _ _ (heap_set _ _ 2 (.int .i64 m.to) _ _ _ (heap_set _ _ 1 (.int .i64 m.fro) _ _ _ (heap_set _ _ 0 (.int .i64 m.kind) _ _ _ hres8))))))))))))))
              simpa using this
            have e0 : ((((((((((((((w8.setCell ⟨w.heap.size, 0, none⟩ (.int .i64 m.kind)).setCell ⟨w.heap.size, 1, none⟩ (.int .i64 m.fro)).setCell ⟨w.heap.size, 2, none⟩ (.int .i64 m.to)).setCell ⟨w.heap.size, 3, none⟩ (.int .i64 m.seq)).setCell ⟨w.heap.size, 4, none⟩ (.int .i64 m.time)).setCell ⟨w.heap.size, 5, none⟩ (.int .i64 m.aseq)).setCell ⟨w.heap.size, 6, none⟩ (.int .i64 m.aend)).setCell ⟨w.heap.size, 7, none⟩ (.slice A m.prof.length c)).setCell ⟨w.heap.size, 8, none⟩ (.slice A' m.links.length c')).setCell ⟨w.heap.size, 9, none⟩ (.int .i64 m.min)).setCell ⟨w.heap.size, 10, none⟩ (.int .i64 m.speed)).setCell ⟨w.heap.size, 11, none⟩ (.int .i64 m.mode)).setCell ⟨w.heap.size, 12, none⟩ (.int .i64 m.acc)).setCell ⟨w.heap.size, 13, none⟩ (.bool m.whole)).cell? ⟨w.heap.size, 0, none⟩ = some (.int .i64 m.kind) := by rw [Lib.cell_of_heap hW]; rfl
            have e1 : ((((((((((((((w8.setCell ⟨w.heap.size, 0, none⟩ (.int .i64 m.kind)).setCell ⟨w.heap.size, 1, none⟩ (.int .i64 m.fro)).setCell ⟨w.heap.size, 2, none⟩ (.int .i64 m.to)).setCell ⟨w.heap.size, 3, none⟩ (.int .i64 m.seq)).setCell ⟨w.heap.size, 4, none⟩ (.int .i64 m.time)).setCell ⟨w.heap.size, 5, none⟩ (.int .i64 m.aseq)).setCell ⟨w.heap.size, 6, none⟩ (.int .i64 m.aend)).setCell ⟨w.heap.size, 7, none⟩ (.slice A m.prof.length c)).setCell ⟨w.heap.size, 8, none⟩ (.slice A' m.links.length c')).setCell ⟨w.heap.size, 9, none⟩ (.int .i64 m.min)).setCell ⟨w.heap.size, 10, none⟩ (.int .i64 m.speed)).setCell ⟨w.heap.size, 11, none⟩ (.int .i64 m.mode)).setCell ⟨w.heap.size, 12, none⟩ (.int .i64 m.acc)).setCell ⟨w.heap.size, 13, none⟩ (.bool m.whole)).cell? ⟨w.heap.size, 1, none⟩ = some (.int .i64 m.fro) := by rw [Lib.cell_of_heap hW]; rfl
            have e2 : ((((((((((((((w8.setCell ⟨w.heap.size, 0, none⟩ (.int .i64 m.kind)).setCell ⟨w.heap.size, 1, none⟩ (.int .i64 m.fro)).setCell ⟨w.heap.size, 2, none⟩ (.int .i64 m.to)).setCell ⟨w.heap.size, 3, none⟩ (.int .i64 m.seq)).setCell ⟨w.heap.size, 4, none⟩ (.int .i64 m.time)).setCell ⟨w.heap.size, 5, none⟩ (.int .i64 m.aseq)).setCell ⟨w.heap.size, 6, none⟩ (.int .i64 m.aend)).setCell ⟨w.heap.size, 7, none⟩ (.slice A m.prof.length c)).setCell ⟨w.heap.size, 8, none⟩ (.slice A' m.links.length c')).setCell ⟨w.heap.size, 9, none⟩ (.int .i64 m.min)).setCell ⟨w.heap.size, 10, none⟩ (.int .i64 m.speed)).setCell ⟨w.heap.size, 11, none⟩ (.int .i64 m.mode)).setCell ⟨w.heap.size, 12, none⟩ (.int .i64 m.acc)).setCell ⟨w.heap.size, 13, none⟩ (.bool m.whole)).cell? ⟨w.heap.size, 2, none⟩ = some (.int .i64 m.to) := by rw [Lib.cell_of_heap hW]; rfl
            have e3 : ((((((((((((((w8.setCell ⟨w.heap.size, 0, none⟩ (.int .i64 m.kind)).setCell ⟨w.heap.size, 1, none⟩ (.int .i64 m.fro)).setCell ⟨w.heap.size, 2, none⟩ (.int .i64 m.to)).setCell ⟨w.heap.size, 3, none⟩ (.int .i64 m.seq)).setCell ⟨w.heap.size, 4, none⟩ (.int .i64 m.time)).setCell ⟨w.heap.size, 5, none⟩ (.int .i64 m.aseq)).setCell ⟨w.heap.size, 6, none⟩ (.int .i64 m.aend)).setCell ⟨w.heap.size, 7, none⟩ (.slice A m.prof.length c)).setCell ⟨w.heap.size, 8, none⟩ (.slice A' m.links.length c')).setCell ⟨w.heap.size, 9, none⟩ (.int .i64 m.min)).setCell ⟨w.heap.size, 10, none⟩ (.int .i64 m.speed)).setCell ⟨w.heap.size, 11, none⟩ (.int .i64 m.mode)).setCell ⟨w.heap.size, 12, none⟩ (.int .i64 m.acc)).setCell ⟨w.heap.size, 13, none⟩ (.bool m.whole)).cell? ⟨w.heap.size, 3, none⟩ = some (.int .i64 m.seq) := by rw [Lib.cell_of_heap hW]; rfl
            have e4 : ((((((((((((((w8.setCell ⟨w.heap.size, 0, none⟩ (.int .i64 m.kind)).setCell ⟨w.heap.size, 1, none⟩ (.int .i64 m.fro)).setCell ⟨w.heap.size, 2, none⟩ (.int .i64 m.to)).setCell ⟨w.heap.size, 3, none⟩ (.int .i64 m.seq)).setCell ⟨w.heap.size, 4, none⟩ (.int .i64 m.time)).setCell ⟨w.heap.size, 5, none⟩ (.int .i64 m.aseq)).setCell ⟨w.heap.size, 6, none⟩ (.int .i64 m.aend)).setCell ⟨w.heap.size, 7, none⟩ (.slice A m.prof.length c)).setCell ⟨w.heap.size, 8, none⟩ (.slice A' m.links.length c')).setCell ⟨w.heap.size, 9, none⟩ (.int .i64 m.min)).setCell ⟨w.heap.size, 10, none⟩ (.int .i64 m.speed)).setCell ⟨w.heap.size, 11, none⟩ (.int .i64 m.mode)).setCell ⟨w.heap.size, 12, none⟩ (.int .i64 m.acc)).setCell ⟨w.heap.size, 13, none⟩ (.bool m.whole)).cell? ⟨w.heap.size, 4, none⟩ = some (.int .i64 m.time) := by rw [Lib.cell_of_heap hW]; rfl
            have e5 : ((((((((((((((w8.setCell ⟨w.heap.size, 0, none⟩ (.int .i64 m.kind)).setCell ⟨w.heap.size, 1, none⟩ (.int .i64 m.fro)).setCell ⟨w.heap.size, 2, none⟩ (.int .i64 m.to)).setCell ⟨w.heap.size, 3, none⟩ (.int .i64 m.seq)).setCell ⟨w.heap.size, 4, none⟩ (.int .i64 m.time)).setCell ⟨w.heap.size, 5, none⟩ (.int .i64 m.aseq)).setCell ⟨w.heap.size, 6, none⟩ (.int .i64 m.aend)).setCell ⟨w.heap.size, 7, none⟩ (.slice A m.prof.length c)).setCell ⟨w.heap.size, 8, none⟩ (.slice A' m.links.length c')).setCell ⟨w.heap.size, 9, none⟩ (.int .i64 m.min)).setCell ⟨w.heap.size, 10, none⟩ (.int .i64 m.speed)).setCell ⟨w.heap.size, 11, none⟩ (.int .i64 m.mode)).setCell ⟨w.heap.size, 12, none⟩ (.int .i64 m.acc)).setCell ⟨w.heap.size, 13, none⟩ (.bool m.whole)).cell? ⟨w.heap.size, 5, none⟩ = some (.int .i64 m.aseq) := by rw [Lib.cell_of_heap hW]; rfl
            have e6 : ((((((((((((((w8.setCell ⟨w.heap.size, 0, none⟩ (.int .i64 m.kind)).setCell ⟨w.heap.size, 1, none⟩ (.int .i64 m.fro)).setCell ⟨w.heap.size, 2, none⟩ (.int .i64 m.to)).setCell ⟨w.heap.size, 3, none⟩ (.int .i64 m.seq)).setCell ⟨w.heap.size, 4, none⟩ (.int .i64 m.time)).setCell ⟨w.heap.size, 5, none⟩ (.int .i64 m.aseq)).setCell ⟨w.heap.size, 6, none⟩ (.int .i64 m.aend)).setCell ⟨w.heap.size, 7, none⟩ (.slice A m.prof.length c)).setCell ⟨w.heap.size, 8, none⟩ (.slice A' m.links.length c')).setCell ⟨w.heap.size, 9, none⟩ (.int .i64 m.min)).setCell ⟨w.heap.size, 10, none⟩ (.int .i64 m.speed)).setCell ⟨w.heap.size, 11, none⟩ (.int .i64 m.mode)).setCell ⟨w.heap.size, 12, none⟩ (.int .i64 m.acc)).setCell ⟨w.heap.size, 13, none⟩ (.bool m.whole)).cell? ⟨w.heap.size, 6, none⟩ = some (.int .i64 m.aend) := by rw [Lib.cell_of_heap hW]; rfl
            have e7 : ((((((((((((((w8.setCell ⟨w.heap.size, 0, none⟩ (.int .i64 m.kind)).setCell ⟨w.heap.size, 1, none⟩ (.int .i64 m.fro)).setCell ⟨w.heap.size, 2, none⟩ (.int .i64 m.to)).setCell ⟨w.heap.size, 3, none⟩ (.int .i64 m.seq)).setCell ⟨w.heap.size, 4, none⟩ (.int .i64 m.time)).setCell ⟨w.heap.size, 5, none⟩ (.int .i64 m.aseq)).setCell ⟨w.heap.size, 6, none⟩ (.int .i64 m.aend)).setCell ⟨w.heap.size, 7, none⟩ (.slice A m.prof.length c)).setCell ⟨w.heap.size, 8, none⟩ (.slice A' m.links.length c')).setCell ⟨w.heap.size, 9, none⟩ (.int .i64 m.min)).setCell ⟨w.heap.size, 10, none⟩ (.int .i64 m.speed)).setCell ⟨w.heap.size, 11, none⟩ (.int .i64 m.mode)).setCell ⟨w.heap.size, 12, none⟩ (.int .i64 m.acc)).setCell ⟨w.heap.size, 13, none⟩ (.bool m.whole)).cell? ⟨w.heap.size, 7, none⟩ = some (.slice A m.prof.length c) := by rw [Lib.cell_of_heap hW]; rfl
            have e8 : ((((((((((((((w8.setCell ⟨w.heap.size, 0, none⟩ (.int .i64 m.kind)).setCell ⟨w.heap.size, 1, none⟩ (.int .i64 m.fro)).setCell ⟨w.heap.size, 2, none⟩ (.int .i64 m.to)).setCell ⟨w.heap.size, 3, none⟩ (.int .i64 m.seq)).setCell ⟨w.heap.size, 4, none⟩ (.int .i64 m.time)).setCell ⟨w.heap.size, 5, none⟩ (.int .i64 m.aseq)).setCell ⟨w.heap.size, 6, none⟩ (.int .i64 m.aend)).setCell ⟨w.heap.size, 7, none⟩ (.slice A m.prof.length c)).setCell ⟨w.heap.size, 8, none⟩ (.slice A' m.links.length c')).setCell ⟨w.heap.size, 9, none⟩ (.int .i64 m.min)).setCell ⟨w.heap.size, 10, none⟩ (.int .i64 m.speed)).setCell ⟨w.heap.size, 11, none⟩ (.int .i64 m.mode)).setCell ⟨w.heap.size, 12, none⟩ (.int .i64 m.acc)).setCell ⟨w.heap.size, 13, none⟩ (.bool m.whole)).cell? ⟨w.heap.size, 8, none⟩ = some (.slice A' m.links.length c') := by rw [Lib.cell_of_heap hW]; rfl
            have e9 : ((((((((((((((w8.setCell ⟨w.heap.size, 0, none⟩ (.int .i64 m.kind)).setCell ⟨w.heap.size, 1, none⟩ (.int .i64 m.fro)).setCell ⟨w.heap.size, 2, none⟩ (.int .i64 m.to)).setCell ⟨w.heap.size, 3, none⟩ (.int .i64 m.seq)).setCell ⟨w.heap.size, 4, none⟩ (.int .i64 m.time)).setCell ⟨w.heap.size, 5, none⟩ (.int .i64 m.aseq)).setCell ⟨w.heap.size, 6, none⟩ (.int .i64 m.aend)).setCell ⟨w.heap.size, 7, none⟩ (.slice A m.prof.length c)).setCell ⟨w.heap.size, 8, none⟩ (.slice A' m.links.length c')).setCell ⟨w.heap.size, 9, none⟩ (.int .i64 m.min)).setCell ⟨w.heap.size, 10, none⟩ (.int .i64 m.speed)).setCell ⟨w.heap.size, 11, none⟩ (.int .i64 m.mode)).setCell ⟨w.heap.size, 12, none⟩ (.int .i64 m.acc)).setCell ⟨w.heap.size, 13, none⟩ (.bool m.whole)).cell? ⟨w.heap.size, 9, none⟩ = some (.int .i64 m.min) := by rw [Lib.cell_of_heap hW]; rfl
            have e10 : ((((((((((((((w8.setCell ⟨w.heap.size, 0, none⟩ (.int .i64 m.kind)).setCell ⟨w.heap.size, 1, none⟩ (.int .i64 m.fro)).setCell ⟨w.heap.size, 2, none⟩ (.int .i64 m.to)).setCell ⟨w.heap.size, 3, none⟩ (.int .i64 m.seq)).setCell ⟨w.heap.size, 4, none⟩ (.int .i64 m.time)).setCell ⟨w.heap.size, 5, none⟩ (.int .i64 m.aseq)).setCell ⟨w.heap.size, 6, none⟩ (.int .i64 m.aend)).setCell ⟨w.heap.size, 7, none⟩ (.slice A m.prof.length c)).setCell ⟨w.heap.size, 8, none⟩ (.slice A' m.links.length c')).setCell ⟨w.heap.size, 9, none⟩ (.int .i64 m.min)).setCell ⟨w.heap.size, 10, none⟩ (.int .i64 m.speed)).setCell ⟨w.heap.size, 11, none⟩ (.int .i64 m.mode)).setCell ⟨w.heap.size, 12, none⟩ (.int .i64 m.acc)).setCell ⟨w.heap.size, 13, none⟩ (.bool m.whole)).cell? ⟨w.heap.size, 10, none⟩ = some (.int .i64 m.speed) := by rw [Lib.cell_of_heap hW]; rfl
            have e11 : ((((((((((((((w8.setCell ⟨w.heap.size, 0, none⟩ (.int .i64 m.kind)).setCell ⟨w.heap.size, 1, none⟩ (.int .i64 m.fro)).setCell ⟨w.heap.size, 2, none⟩ (.int .i64 m.to)).setCell ⟨w.heap.size, 3, none⟩ (.int .i64 m.seq)).setCell ⟨w.heap.size, 4, none⟩ (.int .i64 m.time)).setCell ⟨w.heap.size, 5, none⟩ (.int .i64 m.aseq)).setCell ⟨w.heap.size, 6, none⟩ (.int .i64 m.aend)).setCell ⟨w.heap.size, 7, none⟩ (.slice A m.prof.length c)).setCell ⟨w.heap.size, 8, none⟩ (.slice A' m.links.length c')).setCell ⟨w.heap.size, 9, none⟩ (.int .i64 m.min)).setCell ⟨w.heap.size, 10, none⟩ (.int .i64 m.speed)).setCell ⟨w.heap.size, 11, none⟩ (.int .i64 m.mode)).setCell ⟨w.heap.size, 12, none⟩ (.int .i64 m.acc)).setCell ⟨w.heap.size, 13, none⟩ (.bool m.whole)).cell? ⟨w.heap.size, 11, none⟩ = some (.int .i64 m.mode) := by rw [Lib.cell_of_heap hW]; rfl
            have e12 : ((((((((((((((w8.setCell ⟨w.heap.size, 0, none⟩ (.int .i64 m.kind)).setCell ⟨w.heap.size, 1, none⟩ (.int .i64 m.fro)).setCell ⟨w.heap.size, 2, none⟩ (.int .i64 m.to)).setCell ⟨w.heap.size, 3, none⟩ (.int .i64 m.seq)).setCell ⟨w.heap.size, 4, none⟩ (.int .i64 m.time)).setCell ⟨w.heap.size, 5, none⟩ (.int .i64 m.aseq)).setCell ⟨w.heap.size, 6, none⟩ (.int .i64 m.aend)).setCell ⟨w.heap.size, 7, none⟩ (.slice A m.prof.length c)).setCell ⟨w.heap.size, 8, none⟩ (.slice A' m.links.length c')).setCell ⟨w.heap.size, 9, none⟩ (.int .i64 m.min)).setCell ⟨w.heap.size, 10, none⟩ (.int .i64 m.speed)).setCell ⟨w.heap.size, 11, none⟩ (.int .i64 m.mode)).setCell ⟨w.heap.size, 12, none⟩ (.int .i64 m.acc)).setCell ⟨w.heap.size, 13, none⟩ (.bool m.whole)).cell? ⟨w.heap.size, 12, none⟩ = some (.int .i64 m.acc) := by rw [Lib.cell_of_heap hW]; rfl
            have e13 : ((((((((((((((w8.setCell ⟨w.heap.size, 0, none⟩ (.int .i64 m.kind)).setCell ⟨w.heap.size, 1, none⟩ (.int .i64 m.fro)).setCell ⟨w.heap.size, 2, none⟩ (.int .i64 m.to)).setCell ⟨w.heap.size, 3, none⟩ (.int .i64 m.seq)).setCell ⟨w.heap.size, 4, none⟩ (.int .i64 m.time)).setCell ⟨w.heap.size, 5, none⟩ (.int .i64 m.aseq)).setCell ⟨w.heap.size, 6, none⟩ (.int .i64 m.aend)).setCell ⟨w.heap.size, 7, none⟩ (.slice A m.prof.length c)).setCell ⟨w.heap.size, 8, none⟩ (.slice A' m.links.length c')).setCell ⟨w.heap.size, 9, none⟩ (.int .i64 m.min)).setCell ⟨w.heap.size, 10, none⟩ (.int .i64 m.speed)).setCell ⟨w.heap.size, 11, none⟩ (.int .i64 m.mode)).setCell ⟨w.heap.size, 12, none⟩ (.int .i64 m.acc)).setCell ⟨w.heap.size, 13, none⟩ (.bool m.whole)).cell? ⟨w.heap.size, 13, none⟩ = some (.bool m.whole) := by rw [Lib.cell_of_heap hW]; rfl
            refine bodyPost_ret (v := .tuple #[.agg #[.int .i64 m.kind, .int .i64 m.fro, .int .i64 m.to, .int .i64 m.seq, .int .i64 m.time, .int .i64 m.aseq, .int .i64 m.aend, .slice A m.prof.length c, .slice A' m.links.length c', .int .i64 m.min, .int .i64 m.speed, .int .i64 m.mode, .int .i64 m.acc, .bool m.whole], .int .i64 0]) (by simp [results, Try.results66, go_sem, e0, e1, e2, e3, e4, e5, e6, e7, e8, e9, e10, e11, e12, e13]) rfl ?_
            rw [HDEF.out, if_neg (by rw [HE.out]; simp)]
            have on1 : ((((((((((((((w8.setCell ⟨w.heap.size, 0, none⟩ (.int .i64 m.kind)).setCell ⟨w.heap.size, 1, none⟩ (.int .i64 m.fro)).setCell ⟨w.heap.size, 2, none⟩ (.int .i64 m.to)).setCell ⟨w.heap.size, 3, none⟩ (.int .i64 m.seq)).setCell ⟨w.heap.size, 4, none⟩ (.int .i64 m.time)).setCell ⟨w.heap.size, 5, none⟩ (.int .i64 m.aseq)).setCell ⟨w.heap.size, 6, none⟩ (.int .i64 m.aend)).setCell ⟨w.heap.size, 7, none⟩ (.slice A m.prof.length c)).setCell ⟨w.heap.size, 8, none⟩ (.slice A' m.links.length c')).setCell ⟨w.heap.size, 9, none⟩ (.int .i64 m.min)).setCell ⟨w.heap.size, 10, none⟩ (.int .i64 m.speed)).setCell ⟨w.heap.size, 11, none⟩ (.int .i64 m.mode)).setCell ⟨w.heap.size, 12, none⟩ (.int .i64 m.acc)).setCell ⟨w.heap.size, 13, none⟩ (.bool m.whole)).ownsRow base 100 4 (.slice A m.prof.length c) m.prof.length (m.prof.flatMap Seg.cells) := (own_set (own_set (own_set (own_set (own_set (own_set (own_set (own_set (own_set (own_set (own_set (own_set (own_set (own_set n1 _ _ _ (by omega)) _ _ _ (by omega)) _ _ _ (by omega)) _ _ _ (by omega)) _ _ _ (by omega)) _ _ _ (by omega)) _ _ _ (by omega)) _ _ _ (by omega)) _ _ _ (by omega)) _ _ _ (by omega)) _ _ _ (by omega)) _ _ _ (by omega)) _ _ _ (by omega)) _ _ _ (by omega))
            have on2 : ((((((((((((((w8.setCell ⟨w.heap.size, 0, none⟩ (.int .i64 m.kind)).setCell ⟨w.heap.size, 1, none⟩ (.int .i64 m.fro)).setCell ⟨w.heap.size, 2, none⟩ (.int .i64 m.to)).setCell ⟨w.heap.size, 3, none⟩ (.int .i64 m.seq)).setCell ⟨w.heap.size, 4, none⟩ (.int .i64 m.time)).setCell ⟨w.heap.size, 5, none⟩ (.int .i64 m.aseq)).setCell ⟨w.heap.size, 6, none⟩ (.int .i64 m.aend)).setCell ⟨w.heap.size, 7, none⟩ (.slice A m.prof.length c)).setCell ⟨w.heap.size, 8, none⟩ (.slice A' m.links.length c')).setCell ⟨w.heap.size, 9, none⟩ (.int .i64 m.min)).setCell ⟨w.heap.size, 10, none⟩ (.int .i64 m.speed)).setCell ⟨w.heap.size, 11, none⟩ (.int .i64 m.mode)).setCell ⟨w.heap.size, 12, none⟩ (.int .i64 m.acc)).setCell ⟨w.heap.size, 13, none⟩ (.bool m.whole)).ownsRow base 77 2 (.slice A' m.links.length c') m.links.length (m.links.flatMap Lnk.cells) := (own_set (own_set (own_set (own_set (own_set (own_set (own_set (own_set (own_set (own_set (own_set (own_set (own_set (own_set n2 _ _ _ (by omega)) _ _ _ (by omega)) _ _ _ (by omega)) _ _ _ (by omega)) _ _ _ (by omega)) _ _ _ (by omega)) _ _ _ (by omega)) _ _ _ (by omega)) _ _ _ (by omega)) _ _ _ (by omega)) _ _ _ (by omega)) _ _ _ (by omega)) _ _ _ (by omega)) _ _ _ (by omega))
            obtain ⟨A1, k1', h1, r1⟩ := rdS_own (n := 4) (cells := Seg.cells) (ok := Seg.ok) (hn := fun _ => rfl) on1 hok.2.1
            obtain ⟨A2, k2', h2, r2⟩ := rdS_own (n := 2) (cells := Lnk.cells) (ok := Lnk.ok) (hn := fun _ => rfl) on2 hok.2.2
            simp only [Value.slice.injEq] at h1 h2
            obtain ⟨rfl, -, rfl⟩ := h1
            obtain ⟨rfl, -, rfl⟩ := h2
            exact ⟨_, _, _, _, rfl, r1, r2, ((((((((((((((hB8.setCell (Nat.le_refl _) _).setCell (Nat.le_refl _) _).setCell (Nat.le_refl _) _).setCell (Nat.le_refl _) _).setCell (Nat.le_refl _) _).setCell (Nat.le_refl _) _).setCell (Nat.le_refl _) _).setCell (Nat.le_refl _) _).setCell (Nat.le_refl _) _).setCell (Nat.le_refl _) _).setCell (Nat.le_refl _) _).setCell (Nat.le_refl _) _).setCell (Nat.le_refl _) _).setCell (Nat.le_refl _) _)⟩
          · have he1 : (encM m == l) = false := by simp [he]
            have he2 : (encM m != l) = true := by simp [he]
            have HE := Lib.hid he
            clear he
            go_wp2_with fail
            have hW : ((((((((((((((w8.setCell ⟨w.heap.size, 0, none⟩ (.int .i64 0)).setCell ⟨w.heap.size, 1, none⟩ (.int .i64 0)).setCell ⟨w.heap.size, 2, none⟩ (.int .i64 0)).setCell ⟨w.heap.size, 3, none⟩ (.int .i64 0)).setCell ⟨w.heap.size, 4, none⟩ (.int .i64 0)).setCell ⟨w.heap.size, 5, none⟩ (.int .i64 0)).setCell ⟨w.heap.size, 6, none⟩ (.int .i64 0)).setCell ⟨w.heap.size, 7, none⟩ (.slice none 0 0)).setCell ⟨w.heap.size, 8, none⟩ (.slice none 0 0)).setCell ⟨w.heap.size, 9, none⟩ (.int .i64 0)).setCell ⟨w.heap.size, 10, none⟩ (.int .i64 0)).setCell ⟨w.heap.size, 11, none⟩ (.int .i64 0)).setCell ⟨w.heap.size, 12, none⟩ (.int .i64 0)).setCell ⟨w.heap.size, 13, none⟩ (.bool false)).heap[w.heap.size]? = some (.cells #[.int .i64 0, .int .i64 0, .int .i64 0, .int .i64 0, .int .i64 0, .int .i64 0, .int .i64 0, .slice none 0 0, .slice none 0 0, .int .i64 0, .int .i64 0, .int .i64 0, .int .i64 0, .bool false] 69 (0, 0)) := by
              have := (heap_set _ _ 13 (.bool false) _ _ _ (heap_set _ _ 12 (.int .i64 0) _ _ _ (heap_set _ _ 11 (.int .i64 0) _ _ _ (heap_set _ _ 10 (.int .i64 0) _ _ _ (heap_set _ _ 9 (.int .i64 0) _ _ _ (heap_set _ _ 8 (.slice none 0 0) _ _ _ (heap_set _ _ 7 (.slice none 0 0) _ _ _ (heap_set _ _ 6 (.int .i64 0) _ _ _ (heap_set _ _ 5 (.int .i64 0) _ _ _ (heap_set _ _ 4 (.int .i64 0) _ _ _ (heap_set _ _ 3 (.int .i64 0) _ _ _ (heap_set _ _ 2 (.int .i64 0) _ _ _ (heap_set _ _ 1 (.int .i64 0) _ _ _ (heap_set _ _ 0 (.int .i64 0) _ _ _ hres8))))))))))))))
              simpa using this
            have e0 : ((((((((((((((w8.setCell ⟨w.heap.size, 0, none⟩ (.int .i64 0)).setCell ⟨w.heap.size, 1, none⟩ (.int .i64 0)).setCell ⟨w.heap.size, 2, none⟩ (.int .i64 0)).setCell ⟨w.heap.size, 3, none⟩ (.int .i64 0)).setCell ⟨w.heap.size, 4, none⟩ (.int .i64 0)).setCell ⟨w.heap.size, 5, none⟩ (.int .i64 0)).setCell ⟨w.heap.size, 6, none⟩ (.int .i64 0)).setCell ⟨w.heap.size, 7, none⟩ (.slice none 0 0)).setCell ⟨w.heap.size, 8, none⟩ (.slice none 0 0)).setCell ⟨w.heap.size, 9, none⟩ (.int .i64 0)).setCell ⟨w.heap.size, 10, none⟩ (.int .i64 0)).setCell ⟨w.heap.size, 11, none⟩ (.int .i64 0)).setCell ⟨w.heap.size, 12, none⟩ (.int .i64 0)).setCell ⟨w.heap.size, 13, none⟩ (.bool false)).cell? ⟨w.heap.size, 0, none⟩ = some (.int .i64 0) := by rw [Lib.cell_of_heap hW]; rfl
            have e1 : ((((((((((((((w8.setCell ⟨w.heap.size, 0, none⟩ (.int .i64 0)).setCell ⟨w.heap.size, 1, none⟩ (.int .i64 0)).setCell ⟨w.heap.size, 2, none⟩ (.int .i64 0)).setCell ⟨w.heap.size, 3, none⟩ (.int .i64 0)).setCell ⟨w.heap.size, 4, none⟩ (.int .i64 0)).setCell ⟨w.heap.size, 5, none⟩ (.int .i64 0)).setCell ⟨w.heap.size, 6, none⟩ (.int .i64 0)).setCell ⟨w.heap.size, 7, none⟩ (.slice none 0 0)).setCell ⟨w.heap.size, 8, none⟩ (.slice none 0 0)).setCell ⟨w.heap.size, 9, none⟩ (.int .i64 0)).setCell ⟨w.heap.size, 10, none⟩ (.int .i64 0)).setCell ⟨w.heap.size, 11, none⟩ (.int .i64 0)).setCell ⟨w.heap.size, 12, none⟩ (.int .i64 0)).setCell ⟨w.heap.size, 13, none⟩ (.bool false)).cell? ⟨w.heap.size, 1, none⟩ = some (.int .i64 0) := by rw [Lib.cell_of_heap hW]; rfl
            have e2 : ((((((((((((((w8.setCell ⟨w.heap.size, 0, none⟩ (.int .i64 0)).setCell ⟨w.heap.size, 1, none⟩ (.int .i64 0)).setCell ⟨w.heap.size, 2, none⟩ (.int .i64 0)).setCell ⟨w.heap.size, 3, none⟩ (.int .i64 0)).setCell ⟨w.heap.size, 4, none⟩ (.int .i64 0)).setCell ⟨w.heap.size, 5, none⟩ (.int .i64 0)).setCell ⟨w.heap.size, 6, none⟩ (.int .i64 0)).setCell ⟨w.heap.size, 7, none⟩ (.slice none 0 0)).setCell ⟨w.heap.size, 8, none⟩ (.slice none 0 0)).setCell ⟨w.heap.size, 9, none⟩ (.int .i64 0)).setCell ⟨w.heap.size, 10, none⟩ (.int .i64 0)).setCell ⟨w.heap.size, 11, none⟩ (.int .i64 0)).setCell ⟨w.heap.size, 12, none⟩ (.int .i64 0)).setCell ⟨w.heap.size, 13, none⟩ (.bool false)).cell? ⟨w.heap.size, 2, none⟩ = some (.int .i64 0) := by rw [Lib.cell_of_heap hW]; rfl
            have e3 : ((((((((((((((w8.setCell ⟨w.heap.size, 0, none⟩ (.int .i64 0)).setCell ⟨w.heap.size, 1, none⟩ (.int .i64 0)).setCell ⟨w.heap.size, 2, none⟩ (.int .i64 0)).setCell ⟨w.heap.size, 3, none⟩ (.int .i64 0)).setCell ⟨w.heap.size, 4, none⟩ (.int .i64 0)).setCell ⟨w.heap.size, 5, none⟩ (.int .i64 0)).setCell ⟨w.heap.size, 6, none⟩ (.int .i64 0)).setCell ⟨w.heap.size, 7, none⟩ (.slice none 0 0)).setCell ⟨w.heap.size, 8, none⟩ (.slice none 0 0)).setCell ⟨w.heap.size, 9, none⟩ (.int .i64 0)).setCell ⟨w.heap.size, 10, none⟩ (.int .i64 0)).setCell ⟨w.heap.size, 11, none⟩ (.int .i64 0)).setCell ⟨w.heap.size, 12, none⟩ (.int .i64 0)).setCell ⟨w.heap.size, 13, none⟩ (.bool false)).cell? ⟨w.heap.size, 3, none⟩ = some (.int .i64 0) := by rw [Lib.cell_of_heap hW]; rfl
            have e4 : ((((((((((((((w8.setCell ⟨w.heap.size, 0, none⟩ (.int .i64 0)).setCell ⟨w.heap.size, 1, none⟩ (.int .i64 0)).setCell ⟨w.heap.size, 2, none⟩ (.int .i64 0)).setCell ⟨w.heap.size, 3, none⟩ (.int .i64 0)).setCell ⟨w.heap.size, 4, none⟩ (.int .i64 0)).setCell ⟨w.heap.size, 5, none⟩ (.int .i64 0)).setCell ⟨w.heap.size, 6, none⟩ (.int .i64 0)).setCell ⟨w.heap.size, 7, none⟩ (.slice none 0 0)).setCell ⟨w.heap.size, 8, none⟩ (.slice none 0 0)).setCell ⟨w.heap.size, 9, none⟩ (.int .i64 0)).setCell ⟨w.heap.size, 10, none⟩ (.int .i64 0)).setCell ⟨w.heap.size, 11, none⟩ (.int .i64 0)).setCell ⟨w.heap.size, 12, none⟩ (.int .i64 0)).setCell ⟨w.heap.size, 13, none⟩ (.bool false)).cell? ⟨w.heap.size, 4, none⟩ = some (.int .i64 0) := by rw [Lib.cell_of_heap hW]; rfl
            have e5 : ((((((((((((((w8.setCell ⟨w.heap.size, 0, none⟩ (.int .i64 0)).setCell ⟨w.heap.size, 1, none⟩ (.int .i64 0)).setCell ⟨w.heap.size, 2, none⟩ (.int .i64 0)).setCell ⟨w.heap.size, 3, none⟩ (.int .i64 0)).setCell ⟨w.heap.size, 4, none⟩ (.int .i64 0)).setCell ⟨w.heap.size, 5, none⟩ (.int .i64 0)).setCell ⟨w.heap.size, 6, none⟩ (.int .i64 0)).setCell ⟨w.heap.size, 7, none⟩ (.slice none 0 0)).setCell ⟨w.heap.size, 8, none⟩ (.slice none 0 0)).setCell ⟨w.heap.size, 9, none⟩ (.int .i64 0)).setCell ⟨w.heap.size, 10, none⟩ (.int .i64 0)).setCell ⟨w.heap.size, 11, none⟩ (.int .i64 0)).setCell ⟨w.heap.size, 12, none⟩ (.int .i64 0)).setCell ⟨w.heap.size, 13, none⟩ (.bool false)).cell? ⟨w.heap.size, 5, none⟩ = some (.int .i64 0) := by rw [Lib.cell_of_heap hW]; rfl
            have e6 : ((((((((((((((w8.setCell ⟨w.heap.size, 0, none⟩ (.int .i64 0)).setCell ⟨w.heap.size, 1, none⟩ (.int .i64 0)).setCell ⟨w.heap.size, 2, none⟩ (.int .i64 0)).setCell ⟨w.heap.size, 3, none⟩ (.int .i64 0)).setCell ⟨w.heap.size, 4, none⟩ (.int .i64 0)).setCell ⟨w.heap.size, 5, none⟩ (.int .i64 0)).setCell ⟨w.heap.size, 6, none⟩ (.int .i64 0)).setCell ⟨w.heap.size, 7, none⟩ (.slice none 0 0)).setCell ⟨w.heap.size, 8, none⟩ (.slice none 0 0)).setCell ⟨w.heap.size, 9, none⟩ (.int .i64 0)).setCell ⟨w.heap.size, 10, none⟩ (.int .i64 0)).setCell ⟨w.heap.size, 11, none⟩ (.int .i64 0)).setCell ⟨w.heap.size, 12, none⟩ (.int .i64 0)).setCell ⟨w.heap.size, 13, none⟩ (.bool false)).cell? ⟨w.heap.size, 6, none⟩ = some (.int .i64 0) := by rw [Lib.cell_of_heap hW]; rfl
            have e7 : ((((((((((((((w8.setCell ⟨w.heap.size, 0, none⟩ (.int .i64 0)).setCell ⟨w.heap.size, 1, none⟩ (.int .i64 0)).setCell ⟨w.heap.size, 2, none⟩ (.int .i64 0)).setCell ⟨w.heap.size, 3, none⟩ (.int .i64 0)).setCell ⟨w.heap.size, 4, none⟩ (.int .i64 0)).setCell ⟨w.heap.size, 5, none⟩ (.int .i64 0)).setCell ⟨w.heap.size, 6, none⟩ (.int .i64 0)).setCell ⟨w.heap.size, 7, none⟩ (.slice none 0 0)).setCell ⟨w.heap.size, 8, none⟩ (.slice none 0 0)).setCell ⟨w.heap.size, 9, none⟩ (.int .i64 0)).setCell ⟨w.heap.size, 10, none⟩ (.int .i64 0)).setCell ⟨w.heap.size, 11, none⟩ (.int .i64 0)).setCell ⟨w.heap.size, 12, none⟩ (.int .i64 0)).setCell ⟨w.heap.size, 13, none⟩ (.bool false)).cell? ⟨w.heap.size, 7, none⟩ = some (.slice none 0 0) := by rw [Lib.cell_of_heap hW]; rfl
            have e8 : ((((((((((((((w8.setCell ⟨w.heap.size, 0, none⟩ (.int .i64 0)).setCell ⟨w.heap.size, 1, none⟩ (.int .i64 0)).setCell ⟨w.heap.size, 2, none⟩ (.int .i64 0)).setCell ⟨w.heap.size, 3, none⟩ (.int .i64 0)).setCell ⟨w.heap.size, 4, none⟩ (.int .i64 0)).setCell ⟨w.heap.size, 5, none⟩ (.int .i64 0)).setCell ⟨w.heap.size, 6, none⟩ (.int .i64 0)).setCell ⟨w.heap.size, 7, none⟩ (.slice none 0 0)).setCell ⟨w.heap.size, 8, none⟩ (.slice none 0 0)).setCell ⟨w.heap.size, 9, none⟩ (.int .i64 0)).setCell ⟨w.heap.size, 10, none⟩ (.int .i64 0)).setCell ⟨w.heap.size, 11, none⟩ (.int .i64 0)).setCell ⟨w.heap.size, 12, none⟩ (.int .i64 0)).setCell ⟨w.heap.size, 13, none⟩ (.bool false)).cell? ⟨w.heap.size, 8, none⟩ = some (.slice none 0 0) := by rw [Lib.cell_of_heap hW]; rfl
            have e9 : ((((((((((((((w8.setCell ⟨w.heap.size, 0, none⟩ (.int .i64 0)).setCell ⟨w.heap.size, 1, none⟩ (.int .i64 0)).setCell ⟨w.heap.size, 2, none⟩ (.int .i64 0)).setCell ⟨w.heap.size, 3, none⟩ (.int .i64 0)).setCell ⟨w.heap.size, 4, none⟩ (.int .i64 0)).setCell ⟨w.heap.size, 5, none⟩ (.int .i64 0)).setCell ⟨w.heap.size, 6, none⟩ (.int .i64 0)).setCell ⟨w.heap.size, 7, none⟩ (.slice none 0 0)).setCell ⟨w.heap.size, 8, none⟩ (.slice none 0 0)).setCell ⟨w.heap.size, 9, none⟩ (.int .i64 0)).setCell ⟨w.heap.size, 10, none⟩ (.int .i64 0)).setCell ⟨w.heap.size, 11, none⟩ (.int .i64 0)).setCell ⟨w.heap.size, 12, none⟩ (.int .i64 0)).setCell ⟨w.heap.size, 13, none⟩ (.bool false)).cell? ⟨w.heap.size, 9, none⟩ = some (.int .i64 0) := by rw [Lib.cell_of_heap hW]; rfl
            have e10 : ((((((((((((((w8.setCell ⟨w.heap.size, 0, none⟩ (.int .i64 0)).setCell ⟨w.heap.size, 1, none⟩ (.int .i64 0)).setCell ⟨w.heap.size, 2, none⟩ (.int .i64 0)).setCell ⟨w.heap.size, 3, none⟩ (.int .i64 0)).setCell ⟨w.heap.size, 4, none⟩ (.int .i64 0)).setCell ⟨w.heap.size, 5, none⟩ (.int .i64 0)).setCell ⟨w.heap.size, 6, none⟩ (.int .i64 0)).setCell ⟨w.heap.size, 7, none⟩ (.slice none 0 0)).setCell ⟨w.heap.size, 8, none⟩ (.slice none 0 0)).setCell ⟨w.heap.size, 9, none⟩ (.int .i64 0)).setCell ⟨w.heap.size, 10, none⟩ (.int .i64 0)).setCell ⟨w.heap.size, 11, none⟩ (.int .i64 0)).setCell ⟨w.heap.size, 12, none⟩ (.int .i64 0)).setCell ⟨w.heap.size, 13, none⟩ (.bool false)).cell? ⟨w.heap.size, 10, none⟩ = some (.int .i64 0) := by rw [Lib.cell_of_heap hW]; rfl
            have e11 : ((((((((((((((w8.setCell ⟨w.heap.size, 0, none⟩ (.int .i64 0)).setCell ⟨w.heap.size, 1, none⟩ (.int .i64 0)).setCell ⟨w.heap.size, 2, none⟩ (.int .i64 0)).setCell ⟨w.heap.size, 3, none⟩ (.int .i64 0)).setCell ⟨w.heap.size, 4, none⟩ (.int .i64 0)).setCell ⟨w.heap.size, 5, none⟩ (.int .i64 0)).setCell ⟨w.heap.size, 6, none⟩ (.int .i64 0)).setCell ⟨w.heap.size, 7, none⟩ (.slice none 0 0)).setCell ⟨w.heap.size, 8, none⟩ (.slice none 0 0)).setCell ⟨w.heap.size, 9, none⟩ (.int .i64 0)).setCell ⟨w.heap.size, 10, none⟩ (.int .i64 0)).setCell ⟨w.heap.size, 11, none⟩ (.int .i64 0)).setCell ⟨w.heap.size, 12, none⟩ (.int .i64 0)).setCell ⟨w.heap.size, 13, none⟩ (.bool false)).cell? ⟨w.heap.size, 11, none⟩ = some (.int .i64 0) := by rw [Lib.cell_of_heap hW]; rfl
            have e12 : ((((((((((((((w8.setCell ⟨w.heap.size, 0, none⟩ (.int .i64 0)).setCell ⟨w.heap.size, 1, none⟩ (.int .i64 0)).setCell ⟨w.heap.size, 2, none⟩ (.int .i64 0)).setCell ⟨w.heap.size, 3, none⟩ (.int .i64 0)).setCell ⟨w.heap.size, 4, none⟩ (.int .i64 0)).setCell ⟨w.heap.size, 5, none⟩ (.int .i64 0)).setCell ⟨w.heap.size, 6, none⟩ (.int .i64 0)).setCell ⟨w.heap.size, 7, none⟩ (.slice none 0 0)).setCell ⟨w.heap.size, 8, none⟩ (.slice none 0 0)).setCell ⟨w.heap.size, 9, none⟩ (.int .i64 0)).setCell ⟨w.heap.size, 10, none⟩ (.int .i64 0)).setCell ⟨w.heap.size, 11, none⟩ (.int .i64 0)).setCell ⟨w.heap.size, 12, none⟩ (.int .i64 0)).setCell ⟨w.heap.size, 13, none⟩ (.bool false)).cell? ⟨w.heap.size, 12, none⟩ = some (.int .i64 0) := by rw [Lib.cell_of_heap hW]; rfl
            have e13 : ((((((((((((((w8.setCell ⟨w.heap.size, 0, none⟩ (.int .i64 0)).setCell ⟨w.heap.size, 1, none⟩ (.int .i64 0)).setCell ⟨w.heap.size, 2, none⟩ (.int .i64 0)).setCell ⟨w.heap.size, 3, none⟩ (.int .i64 0)).setCell ⟨w.heap.size, 4, none⟩ (.int .i64 0)).setCell ⟨w.heap.size, 5, none⟩ (.int .i64 0)).setCell ⟨w.heap.size, 6, none⟩ (.int .i64 0)).setCell ⟨w.heap.size, 7, none⟩ (.slice none 0 0)).setCell ⟨w.heap.size, 8, none⟩ (.slice none 0 0)).setCell ⟨w.heap.size, 9, none⟩ (.int .i64 0)).setCell ⟨w.heap.size, 10, none⟩ (.int .i64 0)).setCell ⟨w.heap.size, 11, none⟩ (.int .i64 0)).setCell ⟨w.heap.size, 12, none⟩ (.int .i64 0)).setCell ⟨w.heap.size, 13, none⟩ (.bool false)).cell? ⟨w.heap.size, 13, none⟩ = some (.bool false) := by rw [Lib.cell_of_heap hW]; rfl
            refine bodyPost_ret (v := .tuple #[.agg #[.int .i64 0, .int .i64 0, .int .i64 0, .int .i64 0, .int .i64 0, .int .i64 0, .int .i64 0, .slice none 0 0, .slice none 0 0, .int .i64 0, .int .i64 0, .int .i64 0, .int .i64 0, .bool false], .int .i64 6]) (by simp [results, Try.results66, go_sem, e0, e1, e2, e3, e4, e5, e6, e7, e8, e9, e10, e11, e12, e13]) rfl ?_
            rw [HDEF.out, if_pos HE.out]
            exact decOut_zero rfl ((((((((((((((hB8.setCell (Nat.le_refl _) _).setCell (Nat.le_refl _) _).setCell (Nat.le_refl _) _).setCell (Nat.le_refl _) _).setCell (Nat.le_refl _) _).setCell (Nat.le_refl _) _).setCell (Nat.le_refl _) _).setCell (Nat.le_refl _) _).setCell (Nat.le_refl _) _).setCell (Nat.le_refl _) _).setCell (Nat.le_refl _) _).setCell (Nat.le_refl _) _).setCell (Nat.le_refl _) _).setCell (Nat.le_refl _) _)
        · have HSEG := Lib.hid (hlnk.trans (show lnkN (refI T) (j + 1) st2 acc2 = lnkN (refI T) j (refI T (refI T st2).2).2 (acc2 ++ [((refI T st2).1, (refI T (refI T st2).2).1)]) from rfl))
          clear hlnk
          obtain ⟨c2, c3, f2, f3⟩ := hI.cells
          have hjp : (0 : Int) < (j : Int) + 1 := by omega
          go_wp2_with fail
          go_region_law (first
            | (refine step_append_row rfl (.tmp 108) (.tmp 114) 63 rfl (mb + 1) 77 j0 _ 2 16 Try.underlying63 hj jz jsz jby rfl (by decide) v2 acc2.length (acc2.flatMap Lnk.cells) rfl (hI.alloc hrm _).own2 _ (Lnk.cells ((refI T st2).1, (refI T (refI T st2).2).1)) rfl rfl (fun j u hj => by rw [World.cell?_alloc_at _ _ _ _ rfl]; simpa [Lnk.cells] using hj) (by intro u hu; simp [Lnk.cells] at hu; rcases hu with rfl | rfl <;> rfl) (by omega) (by decide) (by have := hI.lt; simp; omega) ?_; intro A' m' c' w' hown hg; have hI' := hI.alloc hrm (.cells #[.int .i64 (refI T st2).1, .int .i64 (refI T (refI T st2).2).1] 77); obtain ⟨f3, c3⟩ := hI'.facts2 hg)
            | (go_simp; go_at_call 87; refine (rint_any rb T _ _ (by first | with_reducible assumption | exact RdrR.drew (by with_reducible assumption)) (by omega)).mono ?_; rintro e wq ⟨rfl, hr, ho⟩; have hI := MInv.step (by first | with_reducible assumption | exact MInv.drew (by with_reducible assumption)) ho hrm; obtain ⟨c2, c3, f2, f3⟩ := hI.cells; have hlt2 := hI.lt))
          all_goals (go_wp2_with fail)
          all_goals (
            go_roundw
            case rel => exact ⟨j, _, _, _, by omega, by simp; omega, by go_num, (hr.alloc _).put2 hI' hg (by omega) _ _, hI'.put2 hab hown hg, HSEG.out⟩
            case measure => simp [intOf] <;> omega)
    · have HSEG := Lib.hid (hseg.trans (show segN (refI T) (j + 1) st acc = segN (refI T) j (refI T (refI T (refI T (refI T st).2).2).2).2 (acc ++ [((refI T st).1, (refI T (refI T st).2).1, (refI T (refI T (refI T st).2).2).1, (refI T (refI T (refI T (refI T st).2).2).2).1)]) from rfl))
      clear hseg
      obtain ⟨c2, c3, f2, f3⟩ := hI.cells
      have hjp : (0 : Int) < (j : Int) + 1 := by omega
      go_wp2_with fail
      go_region_law (first
        | (refine step_append_row rfl (.tmp 86) (.tmp 96) 62 rfl (mb + 1) 100 i0 _ 4 32 Try.underlying62 hi iz isz iby rfl (by decide) v acc.length (acc.flatMap Seg.cells) rfl (hI.alloc hrm _).own _ (Seg.cells ((refI T st).1, (refI T (refI T st).2).1, (refI T (refI T (refI T st).2).2).1, (refI T (refI T (refI T (refI T st).2).2).2).1)) rfl rfl (fun j u hj => by rw [World.cell?_alloc_at _ _ _ _ rfl]; simpa [Seg.cells] using hj) (by intro u hu; simp [Seg.cells] at hu; rcases hu with rfl | rfl | rfl | rfl <;> rfl) (by omega) (by decide) (by have := hI.lt; simp; omega) ?_; intro A' m' c' w' hown hg; have hI' := hI.alloc hrm (.cells #[.int .i64 (refI T st).1, .int .i64 (refI T (refI T st).2).1, .int .i64 (refI T (refI T (refI T st).2).2).1, .int .i64 (refI T (refI T (refI T (refI T st).2).2).2).1] 100); obtain ⟨f2, c2⟩ := hI'.facts hg)
        | (go_simp; go_at_call 87; refine (rint_any rb T _ _ (by first | with_reducible assumption | exact RdrR.drew (by with_reducible assumption)) (by omega)).mono ?_; rintro e wq ⟨rfl, hr, ho⟩; have hI := MInv.step (by first | with_reducible assumption | exact MInv.drew (by with_reducible assumption)) ho hrm; obtain ⟨c2, c3, f2, f3⟩ := hI.cells; have hlt2 := hI.lt))
      all_goals (go_wp2_with fail)
      all_goals (
        go_roundw
        case rel => exact ⟨j, _, _, _, by omega, by simp; omega, by go_num, (hr.alloc _).put hI' hg (by omega) _ _, hI'.put hab hown hg, HSEG.out⟩
        case measure => simp [intOf] <;> omega)
end MsgDecJ
section MsgDecK
open Go.RowKit
attribute [local go_sem] bs_size bs_get bs_append bs_extract bs_toList
set_option maxRecDepth 100000 in
set_option maxHeartbeats 8000000 in
theorem rdecode_auth3 (l : List UInt8) (w : World) (hs : l.length ≤ 100000) (ho : (openV l).2 = 0) (k1 : ((refI (Crc.body l) 0).1 == 1) = false) (k2 : carB (refI (Crc.body l) 0).1 = true) (k3 : ((refI (Crc.body l) 0).1 == 2) = false) (k4 : ((refI (Crc.body l) 0).1 == 3) = true) :
    Calls Try.prog 66 #[.string (bs l)] w fun e w' => DecOut w (decR l) e w' := by
  obtain ⟨i0, hi, iz, isz, iby⟩ := info_parts info100
  obtain ⟨j0, hj, jz, jsz, jby⟩ := info_parts info77
  obtain ⟨ho1, ho2⟩ := openV_ok ho
  have HB := Lib.hid ho2
  clear ho2 ho
  have hbl := body_len l
  have hok := looseM_ok (Crc.body l)
  have hdef : decR l = if encM (looseM (Crc.body l)) ≠ l then (Msg.zero, 6) else (looseM (Crc.body l), 0) := by
    unfold decR
    rw [ho1]
    rfl
  have HDEF := Lib.hid hdef
  clear hdef
  have hrA : (w.alloc (.cells #[.int .i64 0, .int .i64 0, .int .i64 0, .int .i64 0, .int .i64 0, .int .i64 0, .int .i64 0, .slice none 0 0, .slice none 0 0, .int .i64 0, .int .i64 0, .int .i64 0, .int .i64 0, .bool false] 69)).heap[w.heap.size]? = some (.cells #[.int .i64 0, .int .i64 0, .int .i64 0, .int .i64 0, .int .i64 0, .int .i64 0, .int .i64 0, .slice none 0 0, .slice none 0 0, .int .i64 0, .int .i64 0, .int .i64 0, .int .i64 0, .bool false] 69 (0, 0)) := heap_alloc_new _ _
  have hBA : Below w.heap.size w (w.alloc (.cells #[.int .i64 0, .int .i64 0, .int .i64 0, .int .i64 0, .int .i64 0, .int .i64 0, .int .i64 0, .slice none 0 0, .slice none 0 0, .int .i64 0, .int .i64 0, .int .i64 0, .int .i64 0, .bool false] 69)) := (Below.refl _ _).alloc (Nat.le_refl _) _
  have hzA : (w.alloc (.cells #[.int .i64 0, .int .i64 0, .int .i64 0, .int .i64 0, .int .i64 0, .int .i64 0, .int .i64 0, .slice none 0 0, .slice none 0 0, .int .i64 0, .int .i64 0, .int .i64 0, .int .i64 0, .bool false] 69)).heap.size = w.heap.size + 1 := World.size_alloc _ _
  go_enter Try.func66, Try.ntmps66
  go_wp2_with fail
  refine (rOpen_any l _ hs).mono ?_
  rintro e w1 ⟨rfl, hb1⟩
  have hr1 := (hb1.block w.heap.size (by omega)).trans hrA
  have hz1 := hb1.size
  have hB1 := bthru (w := w) hb1 hBA
  generalize hwA : (w.alloc (.cells #[.int .i64 0, .int .i64 0, .int .i64 0, .int .i64 0, .int .i64 0, .int .i64 0, .int .i64 0, .slice none 0 0, .slice none 0 0, .int .i64 0, .int .i64 0, .int .i64 0, .int .i64 0, .bool false] 69)) = wA at *
  clear hrA hBA hb1 hwA
  rw [ho1]
  go_wp2_with fail
  generalize hT : Crc.body l = T at *
  have hrd : RdrR w1.heap.size T 0 (w1.alloc (.cells #[.string (bs T), .int .i64 0] 109)) := ⟨heap_alloc_new _ _, by omega, by omega⟩
  have hw2 := (Below.refl w1.heap.size w1).alloc (Nat.le_refl _) (.cells #[.string (bs T), .int .i64 0] 109)
  have hz2 : (w1.alloc (.cells #[.string (bs T), .int .i64 0] 109)).heap.size = w1.heap.size + 1 := World.size_alloc _ _
  generalize hwb : w1.alloc (.cells #[.string (bs T), .int .i64 0] 109) = wb at *
  generalize hrbn : w1.heap.size = rb at *
  refine (rint_any rb T 0 _ hrd (by omega)).mono ?_
  rintro e u1 ⟨rfl, hq1, ho1⟩
  go_wp2_with fail
  refine (rint_any rb T _ _ hq1 (by omega)).mono ?_
  rintro e u2 ⟨rfl, hq2, ho2⟩
  go_wp2_with fail
  refine (rint_any rb T _ _ hq2 (by omega)).mono ?_
  rintro e u3 ⟨rfl, hq3, ho3⟩
  go_wp2_with fail
  refine (rint_any rb T _ _ hq3 (by omega)).mono ?_
  rintro e u4 ⟨rfl, hq4, ho4⟩
  go_wp2_with fail
  refine (rint_any rb T _ _ hq4 (by omega)).mono ?_
  rintro e u5 ⟨rfl, hq5, ho5⟩
  go_upto_region 9 with (fail)
  have hO5 : Only rb wb u5 := (((ho1.trans ho2).trans ho3).trans ho4).trans ho5
  have hz5 := hO5.size
  clear ho1 ho2 ho3 ho4 ho5 hq1 hq2 hq3 hq4 hrd
  generalize hx1 : (refI T 0).1 = x1 at *
  generalize hx2 : (refI T (refI T 0).2).1 = x2 at *
  generalize hx3 : (refI T (refI T (refI T 0).2).2).1 = x3 at *
  generalize hx4 : (refI T (refI T (refI T (refI T 0).2).2).2).1 = x4 at *
  generalize hx5 : (refI T (refI T (refI T (refI T (refI T 0).2).2).2).2).1 = x5 at *
  generalize hs5 : (refI T (refI T (refI T (refI T (refI T 0).2).2).2).2).2 = s5 at *
  have HX1 := Lib.hid hx1
  have HX2 := Lib.hid hx2
  have HX3 := Lib.hid hx3
  have HX4 := Lib.hid hx4
  have HX5 := Lib.hid hx5
  have HS5 := Lib.hid hs5
  clear hx1 hx2 hx3 hx4 hx5 hs5
  have hM : (u5.alloc (.cells #[.int .i64 x1, .int .i64 x2, .int .i64 x3, .int .i64 x4, .int .i64 x5, .int .i64 0, .int .i64 0, .slice none 0 0, .slice none 0 0, .int .i64 0, .int .i64 0, .int .i64 0, .int .i64 0, .bool false] 69)).heap[u5.heap.size]? = some (.cells #[.int .i64 x1, .int .i64 x2, .int .i64 x3, .int .i64 x4, .int .i64 x5, .int .i64 0, .int .i64 0, .slice none 0 0, .slice none 0 0, .int .i64 0, .int .i64 0, .int .i64 0, .int .i64 0, .bool false] 69 (0, 0)) := heap_alloc_new _ _
  have hO6 : Only rb wb (u5.alloc (.cells #[.int .i64 x1, .int .i64 x2, .int .i64 x3, .int .i64 x4, .int .i64 x5, .int .i64 0, .int .i64 0, .slice none 0 0, .slice none 0 0, .int .i64 0, .int .i64 0, .int .i64 0, .int .i64 0, .bool false] 69)) := hO5.trans (Only.of_below ((Below.refl _ _).alloc (Nat.le_refl _) _))
  have hr6 : RdrR rb T s5 (u5.alloc (.cells #[.int .i64 x1, .int .i64 x2, .int .i64 x3, .int .i64 x4, .int .i64 x5, .int .i64 0, .int .i64 0, .slice none 0 0, .slice none 0 0, .int .i64 0, .int .i64 0, .int .i64 0, .int .i64 0, .bool false] 69)) := hq5.alloc _
  have hz6 : (u5.alloc (.cells #[.int .i64 x1, .int .i64 x2, .int .i64 x3, .int .i64 x4, .int .i64 x5, .int .i64 0, .int .i64 0, .slice none 0 0, .slice none 0 0, .int .i64 0, .int .i64 0, .int .i64 0, .int .i64 0, .bool false] 69)).heap.size = u5.heap.size + 1 := World.size_alloc _ _
  generalize hw6 : u5.alloc (.cells #[.int .i64 x1, .int .i64 x2, .int .i64 x3, .int .i64 x4, .int .i64 x5, .int .i64 0, .int .i64 0, .slice none 0 0, .slice none 0 0, .int .i64 0, .int .i64 0, .int .i64 0, .int .i64 0, .bool false] 69) = w6 at *
  generalize hmb : u5.heap.size = mb at *
  clear hq5 hO5 hw6 hmb
  have m0 := Lib.cell_of_heap hM 0
  simp only [List.getElem?_toArray, List.getElem?_cons_zero] at m0
  go_wp2_with fail
  refine (rint_any rb T s5 _ hr6 (by omega)).mono ?_
  rintro e v1 ⟨rfl, hq1, ho1⟩
  go_wp2_with fail
  refine (rint_any rb T _ _ hq1 (by omega)).mono ?_
  rintro e v2 ⟨rfl, hq2, ho2⟩
  have hO7 : Only rb w6 v2 := ho1.trans ho2
  have hM7 := (hO7.block mb (heap_lt hM) (by omega)).trans hM
  have hz7 := hO7.size
  clear ho1 ho2 hq1
  generalize hy1 : (refI T s5).1 = y1 at *
  generalize hy2 : (refI T (refI T s5).2).1 = y2 at *
  generalize hs6 : (refI T (refI T s5).2).2 = s6 at *
  have HY1 := Lib.hid hy1
  have HY2 := Lib.hid hy2
  have HS6 := Lib.hid hs6
  clear hy1 hy2 hs6
  have g5 := Lib.cell_of_heap hM7 5
  have gf5 := Lib.frozen_of_heap hM7 5
  have g6 := Lib.cell_of_heap hM7 6
  have gf6 := Lib.frozen_of_heap hM7 6
  have g7 := Lib.cell_of_heap hM7 7
  have gf7 := Lib.frozen_of_heap hM7 7
  have g8 := Lib.cell_of_heap hM7 8
  have gf8 := Lib.frozen_of_heap hM7 8
  simp only [List.getElem?_toArray, List.getElem?_cons_succ, List.getElem?_cons_zero] at g5 g6 g7 g8
  go_upto_region 11 with (fail)
  have hM8 : ((((v2.setCell ⟨mb, 5, none⟩ (.int .i64 y1)).setCell ⟨mb, 6, none⟩ (.int .i64 y2)).setCell ⟨mb, 7, none⟩ (.slice none 0 0)).setCell ⟨mb, 8, none⟩ (.slice none 0 0)).heap[mb]? = some (.cells (MB (x1, x2, x3, x4, x5, y1, y2) (.slice none 0 0) (.slice none 0 0)) 69 (0, 0)) := by
    have := (heap_set _ _ 8 (.slice none 0 0) _ _ _ (heap_set _ _ 7 (.slice none 0 0) _ _ _ (heap_set _ _ 6 (.int .i64 y2) _ _ _ (heap_set _ _ 5 (.int .i64 y1) _ _ _ hM7))))
    simpa [MB] using this
  have hO8 : Only rb wb ((((v2.setCell ⟨mb, 5, none⟩ (.int .i64 y1)).setCell ⟨mb, 6, none⟩ (.int .i64 y2)).setCell ⟨mb, 7, none⟩ (.slice none 0 0)).setCell ⟨mb, 8, none⟩ (.slice none 0 0)) := (only_new (only_new (only_new (only_new (hO6.trans hO7) (by omega) _ _) (by omega) _ _) (by omega) _ _) (by omega) _ _)
  have hr8 : RdrR rb T s6 ((((v2.setCell ⟨mb, 5, none⟩ (.int .i64 y1)).setCell ⟨mb, 6, none⟩ (.int .i64 y2)).setCell ⟨mb, 7, none⟩ (.slice none 0 0)).setCell ⟨mb, 8, none⟩ (.slice none 0 0)) := ⟨((Below.heap_setCell _ _ _ _ (show rb ≠ mb by omega)).trans ((Below.heap_setCell _ _ _ _ (show rb ≠ mb by omega)).trans ((Below.heap_setCell _ _ _ _ (show rb ≠ mb by omega)).trans ((Below.heap_setCell _ _ _ _ (show rb ≠ mb by omega)).trans hq2.1)))), hq2.2⟩
  generalize hWz : ((((v2.setCell ⟨mb, 5, none⟩ (.int .i64 y1)).setCell ⟨mb, 6, none⟩ (.int .i64 y2)).setCell ⟨mb, 7, none⟩ (.slice none 0 0)).setCell ⟨mb, 8, none⟩ (.slice none 0 0)) = wz at *
  clear hWz
  have hab : wb.heap.size ≤ mb := by omega
  have hI8 : MInv wb rb mb (x1, x2, x3, x4, x5, y1, y2) (.slice none 0 0) [] (.slice none 0 0) [] wz := ⟨hM8, World.ownsRow_nil _ _ _ _, World.ownsRow_nil _ _ _ _, hO8⟩
  have hrm : rb < mb := by omega
  clear hM7 hM8 hO7 hO8 hq2 g5 g6 g7 g8 gf5 gf6 gf7 gf8 hO6 hr6 hM m0
  go_wp2_with fail
  refine (rcount_any rb T s6 _ hr8 (by omega)).mono ?_
  rintro e w9 ⟨rfl, hr9, ho9⟩
  have hI9 := hI8.step ho9 hrm
  have hn1 := refC_le T s6
  generalize hn : (refC T s6).1 = n at *
  generalize hs7 : (refC T s6).2 = s7 at *
  have HN := Lib.hid hn
  have HS7 := Lib.hid hs7
  clear hn hs7 hI8 hr8 ho9
  go_wp2_with fail
  go_loopw [8] (fun i wr => ∃ (k : Nat) (acc : List Seg) (st : Int) (v : Value), k ≤ n ∧ acc.length + k = n ∧ i = .int .i64 k ∧ RdrR rb T st wr ∧ MInv wb rb mb (x1, x2, x3, x4, x5, y1, y2) v acc (.slice none 0 0) [] wr ∧ segN (refI T) n s7 [] = segN (refI T) k st acc) (fun i _ => (intOf i).toNat)
  case atStart => exact ⟨n, [], s7, _, by omega, by simp, rfl, hr9, hI9, rfl⟩
  case round =>
    obtain ⟨k, acc, st, v, hk, hacc, rfl, hr, hI, hseg⟩ := hrel
    rcases k with _ | j
    · have hne : acc.length = n := by omega
      have HSG := Lib.hid (show segN (refI T) n s7 [] = (acc, st) from hseg)
      clear hseg
      go_wp2_with fail
      refine (rcount_any rb T st _ hr (by omega)).mono ?_
      rintro e w10 ⟨rfl, hr10, ho10⟩
      have hI10 := hI.step ho10 hrm
      have hn2 := refC_le T st
      generalize hnn : (refC T st).1 = n2 at *
      generalize hs8 : (refC T st).2 = s8 at *
      have HN2 := Lib.hid hnn
      have HS8 := Lib.hid hs8
      clear hnn hs8 hI hr ho10 hI9 hr9
      go_wp2_with fail
      go_loopw [9] (fun i wr => ∃ (k : Nat) (acc2 : List Lnk) (st2 : Int) (v2 : Value), k ≤ n2 ∧ acc2.length + k = n2 ∧ i = .int .i64 k ∧ RdrR rb T st2 wr ∧ MInv wb rb mb (x1, x2, x3, x4, x5, y1, y2) v acc v2 acc2 wr ∧ lnkN (refI T) n2 s8 [] = lnkN (refI T) k st2 acc2) (fun i _ => (intOf i).toNat)
      case atStart => exact ⟨n2, [], s8, _, by omega, by simp, rfl, hr10, hI10, rfl⟩
      case round =>
        clear hI10 hr10
        obtain ⟨k, acc2, st2, v2, hk2, hacc2, rfl, hr, hI, hlnk⟩ := hrel
        rcases k with _ | j
        · have HLK := Lib.hid (show lnkN (refI T) n2 s8 [] = (acc2, st2) from hlnk)
          clear hlnk
          have hm : (⟨x1, x2, x3, x4, x5, y1, y2, acc, acc2, 0, 0, 0, 0, false⟩ : Msg) = looseM T := by
            have hA : looseA T s5 = ((y1, y2, acc, acc2), st2) := by
              unfold looseA
              simp only [HY1.out, HY2.out, HS6.out, HN.out, HS7.out, HSG.out, HN2.out, HS8.out, HLK.out]
            simp only [looseM, HX1.out, HX2.out, HX3.out, HX4.out, HX5.out, HS5.out, k1, k2, hA, if_true, Bool.false_eq_true, if_false]
          have hBw : Below w.heap.size w wr := hI.only.below (hB1.trans (hw2.mono (by omega))) (by omega) (by omega)
          obtain ⟨v, v2, base, hRI⟩ : ∃ v v2 base, RInv w mb (looseM T) v v2 base wr := by
            rw [← hm]
            exact ⟨v, v2, mb + 1, hI.box, hI.own, hI.own2, (hI.only.block _ (by omega) (by omega)).trans ((hw2.block _ (by omega)).trans hr1), by omega, by omega, hBw⟩
          have hkd : (looseM T).kind = x1 := by rw [← hm]
          have k1' : ((looseM T).kind == 1) = false := by rw [hkd]; exact k1
          have k3' : ((looseM T).kind == 2) = false := by rw [hkd]; exact k3
          have k4' : ((looseM T).kind == 3) = true := by rw [hkd]; exact k4
          clear hm hkd
          generalize looseM T = m at *
          clear hr1 hB1 hw2 hr hI hBw k1 k2 k3 k4 hacc hacc2 hne
          obtain ⟨A, c, rfl, hp7⟩ := rdS_own (n := 4) (cells := Seg.cells) (ok := Seg.ok) (hn := fun _ => rfl) hRI.own hok.2.1
          obtain ⟨A', c', rfl, hl7⟩ := rdS_own (n := 2) (cells := Lnk.cells) (ok := Lnk.ok) (hn := fun _ => rfl) hRI.own2 hok.2.2
          have c0 := Lib.cell_of_heap hRI.box 0
          have c1 := Lib.cell_of_heap hRI.box 1
          have c2 := Lib.cell_of_heap hRI.box 2
          have c3 := Lib.cell_of_heap hRI.box 3
          have c4 := Lib.cell_of_heap hRI.box 4
          have c5 := Lib.cell_of_heap hRI.box 5
          have c6 := Lib.cell_of_heap hRI.box 6
          have c7 := Lib.cell_of_heap hRI.box 7
          have c8 := Lib.cell_of_heap hRI.box 8
          have c9 := Lib.cell_of_heap hRI.box 9
          have c10 := Lib.cell_of_heap hRI.box 10
          have c11 := Lib.cell_of_heap hRI.box 11
          have c12 := Lib.cell_of_heap hRI.box 12
          have c13 := Lib.cell_of_heap hRI.box 13
          simp only [List.getElem?_toArray, List.getElem?_cons_succ, List.getElem?_cons_zero] at c0 c1 c2 c3 c4 c5 c6 c7 c8 c9 c10 c11 c12 c13
          go_wp2_with fail
          refine (rEncode_any m A c A' c' _ hok.1 hp7 hl7).mono ?_
          rintro e w8 ⟨rfl, hb8⟩
          have hlow := hRI.lowb
          have hlow2 := hRI.low
          have hres8 := (hb8.block w.heap.size (Nat.lt_of_lt_of_le (heap_lt hRI.res) (Nat.le_refl _))).trans hRI.res
          have hbox8 := (hb8.block mb (heap_lt hRI.box)).trans hRI.box
          have hB8 := bthru (w := w) hb8 hRI.below
          have n1 := own_only hRI.own (Only.of_below (rb := w.heap.size) hb8) hlow2
          have n2 := own_only hRI.own2 (Only.of_below (rb := w.heap.size) hb8) hlow2
          clear c0 c1 c2 c3 c4 c5 c6 c7 c8 c9 c10 c11 c12 c13
          have d0 := Lib.cell_of_heap hres8 0
          have df0 := Lib.frozen_of_heap hres8 0
          have d1 := Lib.cell_of_heap hres8 1
          have df1 := Lib.frozen_of_heap hres8 1
          have d2 := Lib.cell_of_heap hres8 2
          have df2 := Lib.frozen_of_heap hres8 2
          have d3 := Lib.cell_of_heap hres8 3
          have df3 := Lib.frozen_of_heap hres8 3
          have d4 := Lib.cell_of_heap hres8 4
          have df4 := Lib.frozen_of_heap hres8 4
          have d5 := Lib.cell_of_heap hres8 5
          have df5 := Lib.frozen_of_heap hres8 5
          have d6 := Lib.cell_of_heap hres8 6
          have df6 := Lib.frozen_of_heap hres8 6
          have d7 := Lib.cell_of_heap hres8 7
          have df7 := Lib.frozen_of_heap hres8 7
          have d8 := Lib.cell_of_heap hres8 8
          have df8 := Lib.frozen_of_heap hres8 8
          have d9 := Lib.cell_of_heap hres8 9
          have df9 := Lib.frozen_of_heap hres8 9
          have d10 := Lib.cell_of_heap hres8 10
          have df10 := Lib.frozen_of_heap hres8 10
          have d11 := Lib.cell_of_heap hres8 11
          have df11 := Lib.frozen_of_heap hres8 11
          have d12 := Lib.cell_of_heap hres8 12
          have df12 := Lib.frozen_of_heap hres8 12
          have d13 := Lib.cell_of_heap hres8 13
          have df13 := Lib.frozen_of_heap hres8 13
          simp only [List.getElem?_toArray, List.getElem?_cons_succ, List.getElem?_cons_zero] at d0 d1 d2 d3 d4 d5 d6 d7 d8 d9 d10 d11 d12 d13
          by_cases he : encM m = l
          · have he1 : (encM m == l) = true := by simp [he]
            have he2 : (encM m != l) = false := by simp [he]
            have HE := Lib.hid he
            clear he
            have g0 := Lib.cell_of_heap hbox8 0
            have g1 := Lib.cell_of_heap hbox8 1
            have g2 := Lib.cell_of_heap hbox8 2
            have g3 := Lib.cell_of_heap hbox8 3
            have g4 := Lib.cell_of_heap hbox8 4
            have g5 := Lib.cell_of_heap hbox8 5
            have g6 := Lib.cell_of_heap hbox8 6
            have g7 := Lib.cell_of_heap hbox8 7
            have g8 := Lib.cell_of_heap hbox8 8
            have g9 := Lib.cell_of_heap hbox8 9
            have g10 := Lib.cell_of_heap hbox8 10
            have g11 := Lib.cell_of_heap hbox8 11
            have g12 := Lib.cell_of_heap hbox8 12
            have g13 := Lib.cell_of_heap hbox8 13
            simp only [List.getElem?_toArray, List.getElem?_cons_succ, List.getElem?_cons_zero] at g0 g1 g2 g3 g4 g5 g6 g7 g8 g9 g10 g11 g12 g13
            go_wp2_with fail
            have hW : ((((((((((((((w8.setCell ⟨w.heap.size, 0, none⟩ (.int .i64 m.kind)).setCell ⟨w.heap.size, 1, none⟩ (.int .i64 m.fro)).setCell ⟨w.heap.size, 2, none⟩ (.int .i64 m.to)).setCell ⟨w.heap.size, 3, none⟩ (.int .i64 m.seq)).setCell ⟨w.heap.size, 4, none⟩ (.int .i64 m.time)).setCell ⟨w.heap.size, 5, none⟩ (.int .i64 m.aseq)).setCell ⟨w.heap.size, 6, none⟩ (.int .i64 m.aend)).setCell ⟨w.heap.size, 7, none⟩ (.slice A m.prof.length c)).setCell ⟨w.heap.size, 8, none⟩ (.slice A' m.links.length c')).setCell ⟨w.heap.size, 9, none⟩ (.int .i64 m.min)).setCell ⟨w.heap.size, 10, none⟩ (.int .i64 m.speed)).setCell ⟨w.heap.size, 11, none⟩ (.int .i64 m.mode)).setCell ⟨w.heap.size, 12, none⟩ (.int .i64 m.acc)).setCell ⟨w.heap.size, 13, none⟩ (.bool m.whole)).heap[w.heap.size]? = some (.cells #[.int .i64 m.kind, .int .i64 m.fro, .int .i64 m.to, .int .i64 m.seq, .int .i64 m.time, .int .i64 m.aseq, .int .i64 m.aend, .slice A m.prof.length c, .slice A' m.links.length c', .int .i64 m.min, .int .i64 m.speed, .int .i64 m.mode, .int .i64 m.acc, .bool m.whole] 69 (0, 0)) := by
              have := (heap_set _ _ 13 (.bool m.whole) _ _ _ (heap_set _ _ 12 (.int .i64 m.acc) _ _ _ (heap_set _ _ 11 (.int .i64 m.mode) _ _ _ (heap_set _ _ 10 (.int .i64 m.speed) _ _ _ (heap_set _ _ 9 (.int .i64 m.min) _ _ _ (heap_set _ _ 8 (.slice A' m.links.length c') _ _ _ (heap_set _ _ 7 (.slice A m.prof.length c) _ _ _ (heap_set _ _ 6 (.int .i64 m.aend) _ _ _ (heap_set _ _ 5 (.int .i64 m.aseq) _ _ _ (heap_set _ _ 4 (.int .i64 m.time) _ _ _ (heap_set _ _ 3 (.int .i64 m.seq) _ _ _ (heap_set _ _ 2 (.int .i64 m.to) _ _ _ (heap_set _ _ 1 (.int .i64 m.fro) _ _ _ (heap_set _ _ 0 (.int .i64 m.kind) _ _ _ hres8))))))))))))))
              simpa using this
            have e0 : ((((((((((((((w8.setCell ⟨w.heap.size, 0, none⟩ (.int .i64 m.kind)).setCell ⟨w.heap.size, 1, none⟩ (.int .i64 m.fro)).setCell ⟨w.heap.size, 2, none⟩ (.int .i64 m.to)).setCell ⟨w.heap.size, 3, none⟩ (.int .i64 m.seq)).setCell ⟨w.heap.size, 4, none⟩ (.int .i64 m.time)).setCell ⟨w.heap.size, 5, none⟩ (.int .i64 m.aseq)).setCell ⟨w.heap.size, 6, none⟩ (.int .i64 m.aend)).setCell ⟨w.heap.size, 7, none⟩ (.slice A m.prof.length c)).setCell ⟨w.heap.size, 8, none⟩ (.slice A' m.links.length c')).setCell ⟨w.heap.size, 9, none⟩ (.int .i64 m.min)).setCell ⟨w.heap.size, 10, none⟩ (.int .i64 m.speed)).setCell ⟨w.heap.size, 11, none⟩ (.int .i64 m.mode)).setCell ⟨w.heap.size, 12, none⟩ (.int .i64 m.acc)).setCell ⟨w.heap.size, 13, none⟩ (.bool m.whole)).cell? ⟨w.heap.size, 0, none⟩ = some (.int .i64 m.kind) := by rw [Lib.cell_of_heap hW]; rfl
            have e1 : ((((((((((((((w8.setCell ⟨w.heap.size, 0, none⟩ (.int .i64 m.kind)).setCell ⟨w.heap.size, 1, none⟩ (.int .i64 m.fro)).setCell ⟨w.heap.size, 2, none⟩ (.int .i64 m.to)).setCell ⟨w.heap.size, 3, none⟩ (.int .i64 m.seq)).setCell ⟨w.heap.size, 4, none⟩ (.int .i64 m.time)).setCell ⟨w.heap.size, 5, none⟩ (.int .i64 m.aseq)).setCell ⟨w.heap.size, 6, none⟩ (.int .i64 m.aend)).setCell ⟨w.heap.size, 7, none⟩ (.slice A m.prof.length c)).setCell ⟨w.heap.size, 8, none⟩ (.slice A' m.links.length c')).setCell ⟨w.heap.size, 9, none⟩ (.int .i64 m.min)).setCell ⟨w.heap.size, 10, none⟩ (.int .i64 m.speed)).setCell ⟨w.heap.size, 11, none⟩ (.int .i64 m.mode)).setCell ⟨w.heap.size, 12, none⟩ (.int .i64 m.acc)).setCell ⟨w.heap.size, 13, none⟩ (.bool m.whole)).cell? ⟨w.heap.size, 1, none⟩ = some (.int .i64 m.fro) := by rw [Lib.cell_of_heap hW]; rfl
            have e2 : ((((((((((((((w8.setCell ⟨w.heap.size, 0, none⟩ (.int .i64 m.kind)).setCell ⟨w.heap.size, 1, none⟩ (.int .i64 m.fro)).setCell ⟨w.heap.size, 2, none⟩ (.int .i64 m.to)).setCell ⟨w.heap.size, 3, none⟩ (.int .i64 m.seq)).setCell ⟨w.heap.size, 4, none⟩ (.int .i64 m.time)).setCell ⟨w.heap.size, 5, none⟩ (.int .i64 m.aseq)).setCell ⟨w.heap.size, 6, none⟩ (.int .i64 m.aend)).setCell ⟨w.heap.size, 7, none⟩ (.slice A m.prof.length c)).setCell ⟨w.heap.size, 8, none⟩ (.slice A' m.links.length c')).setCell ⟨w.heap.size, 9, none⟩ (.int .i64 m.min)).setCell ⟨w.heap.size, 10, none⟩ (.int .i64 m.speed)).setCell ⟨w.heap.size, 11, none⟩ (.int .i64 m.mode)).setCell ⟨w.heap.size, 12, none⟩ (.int .i64 m.acc)).setCell ⟨w.heap.size, 13, none⟩ (.bool m.whole)).cell? ⟨w.heap.size, 2, none⟩ = some (.int .i64 m.to) := by rw [Lib.cell_of_heap hW]; rfl
            have e3 : ((((((((((((((w8.setCell ⟨w.heap.size, 0, none⟩ (.int .i64 m.kind)).setCell ⟨w.heap.size, 1, none⟩ (.int .i64 m.fro)).setCell ⟨w.heap.size, 2, none⟩ (.int .i64 m.to)).setCell ⟨w.heap.size, 3, none⟩ (.int .i64 m.seq)).setCell ⟨w.heap.size, 4, none⟩ (.int .i64 m.time)).setCell ⟨w.heap.size, 5, none⟩ (.int .i64 m.aseq)).setCell ⟨w.heap.size, 6, none⟩ (.int .i64 m.aend)).setCell ⟨w.heap.size, 7, none⟩ (.slice A m.prof.length c)).setCell ⟨w.heap.size, 8, none⟩ (.slice A' m.links.length c')).setCell ⟨w.heap.size, 9, none⟩ (.int .i64 m.min)).setCell ⟨w.heap.size, 10, none⟩ (.int .i64 m.speed)).setCell ⟨w.heap.size, 11, none⟩ (.int .i64 m.mode)).setCell ⟨w.heap.size, 12, none⟩ (.int .i64 m.acc)).setCell ⟨w.heap.size, 13, none⟩ (.bool m.whole)).cell? ⟨w.heap.size, 3, none⟩ = some (.int .i64 m.seq) := by rw [Lib.cell_of_heap hW]; rfl
            have e4 : ((((((((((((((w8.setCell ⟨w.heap.size, 0, none⟩ (.int .i64 m.kind)).setCell ⟨w.heap.size, 1, none⟩ (.int .i64 m.fro)).setCell ⟨w.heap.size, 2, none⟩ (.int .i64 m.to)).setCell ⟨w.heap.size, 3, none⟩ (.int .i64 m.seq)).setCell ⟨w.heap.size, 4, none⟩ (.int .i64 m.time)).setCell ⟨w.heap.size, 5, none⟩ (.int .i64 m.aseq)).setCell ⟨w.heap.size, 6, none⟩ (.int .i64 m.aend)).setCell ⟨w.heap.size, 7, none⟩ (.slice A m.prof.length c)).setCell ⟨w.heap.size, 8, none⟩ (.slice A' m.links.length c')).setCell ⟨w.heap.size, 9, none⟩ (.int .i64 m.min)).setCell ⟨w.heap.size, 10, none⟩ (.int .i64 m.speed)).setCell ⟨w.heap.size, 11, none⟩ (.int .i64 m.mode)).setCell ⟨w.heap.size, 12, none⟩ (.int .i64 m.acc)).setCell ⟨w.heap.size, 13, none⟩ (.bool m.whole)).cell? ⟨w.heap.size, 4, none⟩ = some (.int .i64 m.time) := by rw [Lib.cell_of_heap hW]; rfl
            have e5 : ((((((((((((((w8.setCell ⟨w.heap.size, 0, none⟩ (.int .i64 m.kind)).setCell ⟨w.heap.size, 1, none⟩ (.int .i64 m.fro)).setCell ⟨w.heap.size, 2, none⟩ (.int .i64 m.to)).setCell ⟨w.heap.size, 3, none⟩ (.int .i64 m.seq)).setCell ⟨w.heap.size, 4, none⟩ (.int .i64 m.time)).setCell ⟨w.heap.size, 5, none⟩ (.int .i64 m.aseq)).setCell ⟨w.heap.size, 6, none⟩ (.int .i64 m.aend)).setCell ⟨w.heap.size, 7, none⟩ (.slice A m.prof.length c)).setCell ⟨w.heap.size, 8, none⟩ (.slice A' m.links.length c')).setCell ⟨w.heap.size, 9, none⟩ (.int .i64 m.min)).setCell ⟨w.heap.size, 10, none⟩ (.int .i64 m.speed)).setCell ⟨w.heap.size, 11, none⟩ (.int .i64 m.mode)).setCell ⟨w.heap.size, 12, none⟩ (.int .i64 m.acc)).setCell ⟨w.heap.size, 13, none⟩ (.bool m.whole)).cell? ⟨w.heap.size, 5, none⟩ = some (.int .i64 m.aseq) := by rw [Lib.cell_of_heap hW]; rfl
            have e6 : ((((((((((((((w8.setCell ⟨w.heap.size, 0, none⟩ (.int .i64 m.kind)).setCell ⟨w.heap.size, 1, none⟩ (.int .i64 m.fro)).setCell ⟨w.heap.size, 2, none⟩ (.int .i64 m.to)).setCell ⟨w.heap.size, 3, none⟩ (.int .i64 m.seq)).setCell ⟨w.heap.size, 4, none⟩ (.int .i64 m.time)).setCell ⟨w.heap.size, 5, none⟩ (.int .i64 m.aseq)).setCell ⟨w.heap.size, 6, none⟩ (.int .i64 m.aend)).setCell ⟨w.heap.size, 7, none⟩ (.slice A m.prof.length c)).setCell ⟨w.heap.size, 8, none⟩ (.slice A' m.links.length c')).setCell ⟨w.heap.size, 9, none⟩ (.int .i64 m.min)).setCell ⟨w.heap.size, 10, none⟩ (.int .i64 m.speed)).setCell ⟨w.heap.size, 11, none⟩ (.int .i64 m.mode)).setCell ⟨w.heap.size, 12, none⟩ (.int .i64 m.acc)).setCell ⟨w.heap.size, 13, none⟩ (.bool m.whole)).cell? ⟨w.heap.size, 6, none⟩ = some (.int .i64 m.aend) := by rw [Lib.cell_of_heap hW]; rfl
            have e7 : ((((((((((((((w8.setCell ⟨w.heap.size, 0, none⟩ (.int .i64 m.kind)).setCell ⟨w.heap.size, 1, none⟩ (.int .i64 m.fro)).setCell ⟨w.heap.size, 2, none⟩ (.int .i64 m.to)).setCell ⟨w.heap.size, 3, none⟩ (.int .i64 m.seq)).setCell ⟨w.heap.size, 4, none⟩ (.int .i64 m.time)).setCell ⟨w.heap.size, 5, none⟩ (.int .i64 m.aseq)).setCell ⟨w.heap.size, 6, none⟩ (.int .i64 m.aend)).setCell ⟨w.heap.size, 7, none⟩ (.slice A m.prof.length c)).setCell ⟨w.heap.size, 8, none⟩ (.slice A' m.links.length c')).setCell ⟨w.heap.size, 9, none⟩ (.int .i64 m.min)).setCell ⟨w.heap.size, 10, none⟩ (.int .i64 m.speed)).setCell ⟨w.heap.size, 11, none⟩ (.int .i64 m.mode)).setCell ⟨w.heap.size, 12, none⟩ (.int .i64 m.acc)).setCell ⟨w.heap.size, 13, none⟩ (.bool m.whole)).cell? ⟨w.heap.size, 7, none⟩ = some (.slice A m.prof.length c) := by rw [Lib.cell_of_heap hW]; rfl
            have e8 : ((((((((((((((w8.setCell ⟨w.heap.size, 0, none⟩ (.int .i64 m.kind)).setCell ⟨w.heap.size, 1, none⟩ (.int .i64 m.fro)).setCell ⟨w.heap.size, 2, none⟩ (.int .i64 m.to)).setCell ⟨w.heap.size, 3, none⟩ (.int .i64 m.seq)).setCell ⟨w.heap.size, 4, none⟩ (.int .i64 m.time)).setCell ⟨w.heap.size, 5, none⟩ (.int .i64 m.aseq)).setCell ⟨w.heap.size, 6, none⟩ (.int .i64 m.aend)).setCell ⟨w.heap.size, 7, none⟩ (.slice A m.prof.length c)).setCell ⟨w.heap.size, 8, none⟩ (.slice A' m.links.length c')).setCell ⟨w.heap.size, 9, none⟩ (.int .i64 m.min)).setCell ⟨w.heap.size, 10, none⟩ (.int .i64 m.speed)).setCell ⟨w.heap.size, 11, none⟩ (.int .i64 m.mode)).setCell ⟨w.heap.size, 12, none⟩ (.int .i64 m.acc)).setCell ⟨w.heap.size, 13, none⟩ (.bool m.whole)).cell? ⟨w.heap.size, 8, none⟩ = some (.slice A' m.links.length c') := by rw [Lib.cell_of_heap hW]; rfl
            have e9 : ((((((((((((((w8.setCell ⟨w.heap.size, 0, none⟩ (.int .i64 m.kind)).setCell ⟨w.heap.size, 1, none⟩ (.int .i64 m.fro)).setCell ⟨w.heap.size, 2, none⟩ (.int .i64 m.to)).setCell ⟨w.heap.size, 3, none⟩ (.int .i64 m.seq)).setCell ⟨w.heap.size, 4, none⟩ (.int .i64 m.time)).setCell ⟨w.heap.size, 5, none⟩ (.int .i64 m.aseq)).setCell ⟨w.heap.size, 6, none⟩ (.int .i64 m.aend)).setCell ⟨w.heap.size, 7, none⟩ (.slice A m.prof.length c)).setCell ⟨w.heap.size, 8, none⟩ (.slice A' m.links.length c')).setCell ⟨w.heap.size, 9, none⟩ (.int .i64 m.min)).setCell ⟨w.heap.size, 10, none⟩ (.int .i64 m.speed)).setCell ⟨w.heap.size, 11, none⟩ (.int .i64 m.mode)).setCell ⟨w.heap.size, 12, none⟩ (.int .i64 m.acc)).setCell ⟨w.heap.size, 13, none⟩ (.bool m.whole)).cell? ⟨w.heap.size, 9, none⟩ = some (.int .i64 m.min) := by rw [Lib.cell_of_heap hW]; rfl
            have e10 : ((((((((((((((w8.setCell ⟨w.heap.size, 0, none⟩ (.int .i64 m.kind)).setCell ⟨w.heap.size, 1, none⟩ (.int .i64 m.fro)).setCell ⟨w.heap.size, 2, none⟩ (.int .i64 m.to)).setCell ⟨w.heap.size, 3, none⟩ (.int .i64 m.seq)).setCell ⟨w.heap.size, 4, none⟩ (.int .i64 m.time)).setCell ⟨w.heap.size, 5, none⟩ (.int .i64 m.aseq)).setCell ⟨w.heap.size, 6, none⟩ (.int .i64 m.aend)).setCell ⟨w.heap.size, 7, none⟩ (.slice A m.prof.length c)).setCell ⟨w.heap.size, 8, none⟩ (.slice A' m.links.length c')).setCell ⟨w.heap.size, 9, none⟩ (.int .i64 m.min)).setCell ⟨w.heap.size, 10, none⟩ (.int .i64 m.speed)).setCell ⟨w.heap.size, 11, none⟩ (.int .i64 m.mode)).setCell ⟨w.heap.size, 12, none⟩ (.int .i64 m.acc)).setCell ⟨w.heap.size, 13, none⟩ (.bool m.whole)).cell? ⟨w.heap.size, 10, none⟩ = some (.int .i64 m.speed) := by rw [Lib.cell_of_heap hW]; rfl
            have e11 : ((((((((((((((w8.setCell ⟨w.heap.size, 0, none⟩ (.int .i64 m.kind)).setCell ⟨w.heap.size, 1, none⟩ (.int .i64 m.fro)).setCell ⟨w.heap.size, 2, none⟩ (.int .i64 m.to)).setCell ⟨w.heap.size, 3, none⟩ (.int .i64 m.seq)).setCell ⟨w.heap.size, 4, none⟩ (.int .i64 m.time)).setCell ⟨w.heap.size, 5, none⟩ (.int .i64 m.aseq)).setCell ⟨w.heap.size, 6, none⟩ (.int .i64 m.aend)).setCell ⟨w.heap.size, 7, none⟩ (.slice A m.prof.length c)).setCell ⟨w.heap.size, 8, none⟩ (.slice A' m.links.length c')).setCell ⟨w.heap.size, 9, none⟩ (.int .i64 m.min)).setCell ⟨w.heap.size, 10, none⟩ (.int .i64 m.speed)).setCell ⟨w.heap.size, 11, none⟩ (.int .i64 m.mode)).setCell ⟨w.heap.size, 12, none⟩ (.int .i64 m.acc)).setCell ⟨w.heap.size, 13, none⟩ (.bool m.whole)).cell? ⟨w.heap.size, 11, none⟩ = some (.int .i64 m.mode) := by rw [Lib.cell_of_heap hW]; rfl
            have e12 : ((((((((((((((w8.setCell ⟨w.heap.size, 0, none⟩ (.int .i64 m.kind)).setCell ⟨w.heap.size, 1, none⟩ (.int .i64 m.fro)).setCell ⟨w.heap.size, 2, none⟩ (.int .i64 m.to)).setCell ⟨w.heap.size, 3, none⟩ (.int .i64 m.seq)).setCell ⟨w.heap.size, 4, none⟩ (.int .i64 m.time)).setCell ⟨w.heap.size, 5, none⟩ (.int .i64 m.aseq)).setCell ⟨w.heap.size, 6, none⟩ (.int .i64 m.aend)).setCell ⟨w.heap.size, 7, none⟩ (.slice A m.prof.length c)).setCell ⟨w.heap.size, 8, none⟩ (.slice A' m.links.length c')).setCell ⟨w.heap.size, 9, none⟩ (.int .i64 m.min)).setCell ⟨w.heap.size, 10, none⟩ (.int .i64 m.speed)).setCell ⟨w.heap.size, 11, none⟩ (.int .i64 m.mode)).setCell ⟨w.heap.size, 12, none⟩ (.int .i64 m.acc)).setCell ⟨w.heap.size, 13, none⟩ (.bool m.whole)).cell? ⟨w.heap.size, 12, none⟩ = some (.int .i64 m.acc) := by rw [Lib.cell_of_heap hW]; rfl
            have e13 : ((((((((((((((w8.setCell ⟨w.heap.size, 0, none⟩ (.int .i64 m.kind)).setCell ⟨w.heap.size, 1, none⟩ (.int .i64 m.fro)).setCell ⟨w.heap.size, 2, none⟩ (.int .i64 m.to)).setCell ⟨w.heap.size, 3, none⟩ (.int .i64 m.seq)).setCell ⟨w.heap.size, 4, none⟩ (.int .i64 m.time)).setCell ⟨w.heap.size, 5, none⟩ (.int .i64 m.aseq)).setCell ⟨w.heap.size, 6, none⟩ (.int .i64 m.aend)).setCell ⟨w.heap.size, 7, none⟩ (.slice A m.prof.length c)).setCell ⟨w.heap.size, 8, none⟩ (.slice A' m.links.length c')).setCell ⟨w.heap.size, 9, none⟩ (.int .i64 m.min)).setCell ⟨w.heap.size, 10, none⟩ (.int .i64 m.speed)).setCell ⟨w.heap.size, 11, none⟩ (.int .i64 m.mode)).setCell ⟨w.heap.size, 12, none⟩ (.int .i64 m.acc)).setCell ⟨w.heap.size, 13, none⟩ (.bool m.whole)).cell? ⟨w.heap.size, 13, none⟩ = some (.bool m.whole) := by rw [Lib.cell_of_heap hW]; rfl
            refine bodyPost_ret (v := .tuple #[.agg #[.int .i64 m.kind, .int .i64 m.fro, .int .i64 m.to, .int .i64 m.seq, .int .i64 m.time, .int .i64 m.aseq, .int .i64 m.aend, .slice A m.prof.length c, .slice A' m.links.length c', .int .i64 m.min, .int .i64 m.speed, .int .i64 m.mode, .int .i64 m.acc, .bool m.whole], .int .i64 0]) (by simp [results, Try.results66, go_sem, e0, e1, e2, e3, e4, e5, e6, e7, e8, e9, e10, e11, e12, e13]) rfl ?_
            rw [HDEF.out, if_neg (by rw [HE.out]; simp)]
            have on1 : ((((((((((((((w8.setCell ⟨w.heap.size, 0, none⟩ (.int .i64 m.kind)).setCell ⟨w.heap.size, 1, none⟩ (.int .i64 m.fro)).setCell ⟨w.heap.size, 2, none⟩ (.int .i64 m.to)).setCell ⟨w.heap.size, 3, none⟩ (.int .i64 m.seq)).setCell ⟨w.heap.size, 4, none⟩ (.int .i64 m.time)).setCell ⟨w.heap.size, 5, none⟩ (.int .i64 m.aseq)).setCell ⟨w.heap.size, 6, none⟩ (.int .i64 m.aend)).setCell ⟨w.heap.size, 7, none⟩ (.slice A m.prof.length c)).setCell ⟨w.heap.size, 8, none⟩ (.slice A' m.links.length c')).setCell ⟨w.heap.size, 9, none⟩ (.int .i64 m.min)).setCell ⟨w.heap.size, 10, none⟩ (.int .i64 m.speed)).setCell ⟨w.heap.size, 11, none⟩ (.int .i64 m.mode)).setCell ⟨w.heap.size, 12, none⟩ (.int .i64 m.acc)).setCell ⟨w.heap.size, 13, none⟩ (.bool m.whole)).ownsRow base 100 4 (.slice A m.prof.length c) m.prof.length (m.prof.flatMap Seg.cells) := (own_set (own_set (own_set (own_set (own_set (own_set (own_set (own_set (own_set (own_set (own_set (own_set (own_set (own_set n1 _ _ _ (by omega)) _ _ _ (by omega)) _ _ _ (by omega)) _ _ _ (by omega)) _ _ _ (by omega)) _ _ _ (by omega)) _ _ _ (by omega)) _ _ _ (by omega)) _ _ _ (by omega)) _ _ _ (by omega)) _ _ _ (by omega)) _ _ _ (by omega)) _ _ _ (by omega)) _ _ _ (by omega))
            have on2 : ((((((((((((((w8.setCell ⟨w.heap.size, 0, none⟩ (.int .i64 m.kind)).setCell ⟨w.heap.size, 1, none⟩ (.int .i64 m.fro)).setCell ⟨w.heap.size, 2, none⟩ (.int .i64 m.to)).setCell ⟨w.heap.size, 3, none⟩ (.int .i64 m.seq)).setCell ⟨w.heap.size, 4, none⟩ (.int .i64 m.time)).setCell ⟨w.heap.size, 5, none⟩ (.int .i64 m.aseq)).setCell ⟨w.heap.size, 6, none⟩ (.int .i64 m.aend)).setCell ⟨w.heap.size, 7, none⟩ (.slice A m.prof.length c)).setCell ⟨w.heap.size, 8, none⟩ (.slice A' m.links.length c')).setCell ⟨w.heap.size, 9, none⟩ (.int .i64 m.min)).setCell ⟨w.heap.size, 10, none⟩ (.int .i64 m.speed)).setCell ⟨w.heap.size, 11, none⟩ (.int .i64 m.mode)).setCell ⟨w.heap.size, 12, none⟩ (.int .i64 m.acc)).setCell ⟨w.heap.size, 13, none⟩ (.bool m.whole)).ownsRow base 77 2 (.slice A' m.links.length c') m.links.length (m.links.flatMap Lnk.cells) := (own_set (own_set (own_set (own_set (own_set (own_set (own_set (own_set (own_set (own_set (own_set (own_set (own_set (own_set n2 _ _ _ (by omega)) _ _ _ (by omega)) _ _ _ (by omega)) _ _ _ (by omega)) _ _ _ (by omega)) _ _ _ (by omega)) _ _ _ (by omega)) _ _ _ (by omega)) _ _ _ (by omega)) _ _ _ (by omega)) _ _ _ (by omega)) _ _ _ (by omega)) _ _ _ (by omega)) _ _ _ (by omega))
            obtain ⟨A1, k1', h1, r1⟩ := rdS_own (n := 4) (cells := Seg.cells) (ok := Seg.ok) (hn := fun _ => rfl) on1 hok.2.1
            obtain ⟨A2, k2', h2, r2⟩ := rdS_own (n := 2) (cells := Lnk.cells) (ok := Lnk.ok) (hn := fun _ => rfl) on2 hok.2.2
            simp only [Value.slice.injEq] at h1 h2
            obtain ⟨rfl, -, rfl⟩ := h1
            obtain ⟨rfl, -, rfl⟩ := h2
            exact ⟨_, _, _, _, rfl, r1, r2, ((((((((((((((hB8.setCell (Nat.le_refl _) _).setCell (Nat.le_refl _) _).setCell (Nat.le_refl _) _).setCell (Nat.le_refl _) _).setCell (Nat.le_refl _) _).setCell (Nat.le_refl _) _).setCell (Nat.le_refl _) _).setCell (Nat.le_refl _) _).setCell (Nat.le_refl _) _).setCell (Nat.le_refl _) _).setCell (Nat.le_refl _) _).setCell (Nat.le_refl _) _).setCell (Nat.le_refl _) _).setCell (Nat.le_refl _) _)⟩
          · have he1 : (encM m == l) = false := by simp [he]
            have he2 : (encM m != l) = true := by simp [he]
            have HE := Lib.hid he
            clear he
            go_wp2_with fail
            have hW : ((((((((((((((w8.setCell ⟨w.heap.size, 0, none⟩ (.int .i64 0)).setCell ⟨w.heap.size, 1, none⟩ (.int .i64 0)).setCell ⟨w.heap.size, 2, none⟩ (.int .i64 0)).setCell ⟨w.heap.size, 3, none⟩ (.int .i64 0)).setCell ⟨w.heap.size, 4, none⟩ (.int .i64 0)).setCell ⟨w.heap.size, 5, none⟩ (.int .i64 0)).setCell ⟨w.heap.size, 6, none⟩ (.int .i64 0)).setCell ⟨w.heap.size, 7, none⟩ (.slice none 0 0)).setCell ⟨w.heap.size, 8, none⟩ (.slice none 0 0)).setCell ⟨w.heap.size, 9, none⟩ (.int .i64 0)).setCell ⟨w.heap.size, 10, none⟩ (.int .i64 0)).setCell ⟨w.heap.size, 11, none⟩ (.int .i64 0)).setCell ⟨w.heap.size, 12, none⟩ (.int .i64 0)).setCell ⟨w.heap.size, 13, none⟩ (.bool false)).heap[w.heap.size]? = some (.cells #[.int .i64 0, .int .i64 0, .int .i64 0, .int .i64 0, .int .i64 0, .int .i64 0, .int .i64 0, .slice none 0 0, .slice none 0 0, .int .i64 0, .int .i64 0, .int .i64 0, .int .i64 0, .bool false] 69 (0, 0)) := by
              have := (heap_set _ _ 13 (.bool false) _ _ _ (heap_set _ _ 12 (.int .i64 0) _ _ _ (heap_set _ _ 11 (.int .i64 0) _ _ _ (heap_set _ _ 10 (.int .i64 0) _ _ _ (heap_set _ _ 9 (.int .i64 0) _ _ _ (heap_set _ _ 8 (.slice none 0 0) _ _ _ (heap_set _ _ 7 (.slice none 0 0) _ _ _ (heap_set _ _ 6 (.int .i64 0) _ _ _ (heap_set _ _ 5 (.int .i64 0) _ _ _ (heap_set _ _ 4 (.int .i64 0) _ _ _ (heap_set _ _ 3 (.int .i64 0) _ _ _ (heap_set _ _ 2 (.int .i64 0) _ _ _ (heap_set _ _ 1 (.int .i64 0) _ _ _ (heap_set _ _ 0 (.int .i64 0) _ _ _ hres8))))))))))))))
              simpa using this
            have e0 : ((((((((((((((w8.setCell ⟨w.heap.size, 0, none⟩ (.int .i64 0)).setCell ⟨w.heap.size, 1, none⟩ (.int .i64 0)).setCell ⟨w.heap.size, 2, none⟩ (.int .i64 0)).setCell ⟨w.heap.size, 3, none⟩ (.int .i64 0)).setCell ⟨w.heap.size, 4, none⟩ (.int .i64 0)).setCell ⟨w.heap.size, 5, none⟩ (.int .i64 0)).setCell ⟨w.heap.size, 6, none⟩ (.int .i64 0)).setCell ⟨w.heap.size, 7, none⟩ (.slice none 0 0)).setCell ⟨w.heap.size, 8, none⟩ (.slice none 0 0)).setCell ⟨w.heap.size, 9, none⟩ (.int .i64 0)).setCell ⟨w.heap.size, 10, none⟩ (.int .i64 0)).setCell ⟨w.heap.size, 11, none⟩ (.int .i64 0)).setCell ⟨w.heap.size, 12, none⟩ (.int .i64 0)).setCell ⟨w.heap.size, 13, none⟩ (.bool false)).cell? ⟨w.heap.size, 0, none⟩ = some (.int .i64 0) := by rw [Lib.cell_of_heap hW]; rfl
            have e1 : ((((((((((((((w8.setCell ⟨w.heap.size, 0, none⟩ (.int .i64 0)).setCell ⟨w.heap.size, 1, none⟩ (.int .i64 0)).setCell ⟨w.heap.size, 2, none⟩ (.int .i64 0)).setCell ⟨w.heap.size, 3, none⟩ (.int .i64 0)).setCell ⟨w.heap.size, 4, none⟩ (.int .i64 0)).setCell ⟨w.heap.size, 5, none⟩ (.int .i64 0)).setCell ⟨w.heap.size, 6, none⟩ (.int .i64 0)).setCell ⟨w.heap.size, 7, none⟩ (.slice none 0 0)).setCell ⟨w.heap.size, 8, none⟩ (.slice none 0 0)).setCell ⟨w.heap.size, 9, none⟩ (.int .i64 0)).setCell ⟨w.heap.size, 10, none⟩ (.int .i64 0)).setCell ⟨w.heap.size, 11, none⟩ (.int .i64 0)).setCell ⟨w.heap.size, 12, none⟩ (.int .i64 0)).setCell ⟨w.heap.size, 13, none⟩ (.bool false)).cell? ⟨w.heap.size, 1, none⟩ = some (.int .i64 0) := by rw [Lib.cell_of_heap hW]; rfl
            have e2 : ((((((((((((((w8.setCell ⟨w.heap.size, 0, none⟩ (.int .i64 0)).setCell ⟨w.heap.size, 1, none⟩ (.int .i64 0)).setCell ⟨w.heap.size, 2, none⟩ (.int .i64 0)).setCell ⟨w.heap.size, 3, none⟩ (.int .i64 0)).setCell ⟨w.heap.size, 4, none⟩ (.int .i64 0)).setCell ⟨w.heap.size, 5, none⟩ (.int .i64 0)).setCell ⟨w.heap.size, 6, none⟩ (.int .i64 0)).setCell ⟨w.heap.size, 7, none⟩ (.slice none 0 0)).setCell ⟨w.heap.size, 8, none⟩ (.slice none 0 0)).setCell ⟨w.heap.size, 9, none⟩ (.int .i64 0)).setCell ⟨w.heap.size, 10, none⟩ (.int .i64 0)).setCell ⟨w.heap.size, 11, none⟩ (.int .i64 0)).setCell ⟨w.heap.size, 12, none⟩ (.int .i64 0)).setCell ⟨w.heap.size, 13, none⟩ (.bool false)).cell? ⟨w.heap.size, 2, none⟩ = some (.int .i64 0) := by rw [Lib.cell_of_heap hW]; rfl
            have e3 : ((((((((((((((w8.setCell ⟨w.heap.size, 0, none⟩ (.int .i64 0)).setCell ⟨w.heap.size, 1, none⟩ (.int .i64 0)).setCell ⟨w.heap.size, 2, none⟩ (.int .i64 0)).setCell ⟨w.heap.size, 3, none⟩ (.int .i64 0)).setCell ⟨w.heap.size, 4, none⟩ (.int .i64 0)).setCell ⟨w.heap.size, 5, none⟩ (.int .i64 0)).setCell ⟨w.heap.size, 6, none⟩ (.int .i64 0)).setCell ⟨w.heap.size, 7, none⟩ (.slice none 0 0)).setCell ⟨w.heap.size, 8, none⟩ (.slice none 0 0)).setCell ⟨w.heap.size, 9, none⟩ (.int .i64 0)).setCell ⟨w.heap.size, 10, none⟩ (.int .i64 0)).setCell ⟨w.heap.size, 11, none⟩ (.int .i64 0)).setCell ⟨w.heap.size, 12, none⟩ (.int .i64 0)).setCell ⟨w.heap.size, 13, none⟩ (.bool false)).cell? ⟨w.heap.size, 3, none⟩ = some (.int .i64 0) := by rw [Lib.cell_of_heap hW]; rfl
            have e4 : ((((((((((((((w8.setCell ⟨w.heap.size, 0, none⟩ (.int .i64 0)).setCell ⟨w.heap.size, 1, none⟩ (.int .i64 0)).setCell ⟨w.heap.size, 2, none⟩ (.int .i64 0)).setCell ⟨w.heap.size, 3, none⟩ (.int .i64 0)).setCell ⟨w.heap.size, 4, none⟩ (.int .i64 0)).setCell ⟨w.heap.size, 5, none⟩ (.int .i64 0)).setCell ⟨w.heap.size, 6, none⟩ (.int .i64 0)).setCell ⟨w.heap.size, 7, none⟩ (.slice none 0 0)).setCell ⟨w.heap.size, 8, none⟩ (.slice none 0 0)).setCell ⟨w.heap.size, 9, none⟩ (.int .i64 0)).setCell ⟨w.heap.size, 10, none⟩ (.int .i64 0)).setCell ⟨w.heap.size, 11, none⟩ (.int .i64 0)).setCell ⟨w.heap.size, 12, none⟩ (.int .i64 0)).setCell ⟨w.heap.size, 13, none⟩ (.bool false)).cell? ⟨w.heap.size, 4, none⟩ = some (.int .i64 0) := by rw [Lib.cell_of_heap hW]; rfl
            have e5 : ((((((((((((((w8.setCell ⟨w.heap.size, 0, none⟩ (.int .i64 0)).setCell ⟨w.heap.size, 1, none⟩ (.int .i64 0)).setCell ⟨w.heap.size, 2, none⟩ (.int .i64 0)).setCell ⟨w.heap.size, 3, none⟩ (.int .i64 0)).setCell ⟨w.heap.size, 4, none⟩ (.int .i64 0)).setCell ⟨w.heap.size, 5, none⟩ (.int .i64 0)).setCell ⟨w.heap.size, 6, none⟩ (.int .i64 0)).setCell ⟨w.heap.size, 7, none⟩ (.slice none 0 0)).setCell ⟨w.heap.size, 8, none⟩ (.slice none 0 0)).setCell ⟨w.heap.size, 9, none⟩ (.int .i64 0)).setCell ⟨w.heap.size, 10, none⟩ (.int .i64 0)).setCell ⟨w.heap.size, 11, none⟩ (.int .i64 0)).setCell ⟨w.heap.size, 12, none⟩ (.int .i64 0)).setCell ⟨w.heap.size, 13, none⟩ (.bool false)).cell? ⟨w.heap.size, 5, none⟩ = some (.int .i64 0) := by rw [Lib.cell_of_heap hW]; rfl
            have e6 : ((((((((((((((w8.setCell ⟨w.heap.size, 0, none⟩ (.int .i64 0)).setCell ⟨w.heap.size, 1, none⟩ (.int .i64 0)).setCell ⟨w.heap.size, 2, none⟩ (.int .i64 0)).setCell ⟨w.heap.size, 3, none⟩ (.int .i64 0)).setCell ⟨w.heap.size, 4, none⟩ (.int .i64 0)).setCell ⟨w.heap.size, 5, none⟩ (.int .i64 0)).setCell ⟨w.heap.size, 6, none⟩ (.int .i64 0)).setCell ⟨w.heap.size, 7, none⟩ (.slice none 0 0)).setCell ⟨w.heap.size, 8, none⟩ (.slice none 0 0)).setCell ⟨w.heap.size, 9, none⟩ (.int .i64 0)).setCell ⟨w.heap.size, 10, none⟩ (.int .i64 0)).setCell ⟨w.heap.size, 11, none⟩ (.int .i64 0)).setCell ⟨w.heap.size, 12, none⟩ (.int .i64 0)).setCell ⟨w.heap.size, 13, none⟩ (.bool false)).cell? ⟨w.heap.size, 6, none⟩ = some (.int .i64 0) := by rw [Lib.cell_of_heap hW]; rfl
            have e7 : ((((((((((((((w8.setCell ⟨w.heap.size, 0, none⟩ (.int .i64 0)).setCell ⟨w.heap.size, 1, none⟩ (.int .i64 0)).setCell ⟨w.heap.size, 2, none⟩ (.int .i64 0)).setCell ⟨w.heap.size, 3, none⟩ (.int .i64 0)).setCell ⟨w.heap.size, 4, none⟩ (.int .i64 0)).setCell ⟨w.heap.size, 5, none⟩ (.int .i64 0)).setCell ⟨w.heap.size, 6, none⟩ (.int .i64 0)).setCell ⟨w.heap.size, 7, none⟩ (.slice none 0 0)).setCell ⟨w.heap.size, 8, none⟩ (.slice none 0 0)).setCell ⟨w.heap.size, 9, none⟩ (.int .i64 0)).setCell ⟨w.heap.size, 10, none⟩ (.int .i64 0)).setCell ⟨w.heap.size, 11, none⟩ (.int .i64 0)).setCell ⟨w.heap.size, 12, none⟩ (.int .i64 0)).setCell ⟨w.heap.size, 13, none⟩ (.bool false)).cell? ⟨w.heap.size, 7, none⟩ = some (.slice none 0 0) := by rw [Lib.cell_of_heap hW]; rfl
            have e8 : ((((((((((((((w8.setCell ⟨w.heap.size, 0, none⟩ (.int .i64 0)).setCell ⟨w.heap.size, 1, none⟩ (.int .i64 0)).setCell ⟨w.heap.size, 2, none⟩ (.int .i64 0)).setCell ⟨w.heap.size, 3, none⟩ (.int .i64 0)).setCell ⟨w.heap.size, 4, none⟩ (.int .i64 0)).setCell ⟨w.heap.size, 5, none⟩ (.int .i64 0)).setCell ⟨w.heap.size, 6, none⟩ (.int .i64 0)).setCell ⟨w.heap.size, 7, none⟩ (.slice none 0 0)).setCell ⟨w.heap.size, 8, none⟩ (.slice none 0 0)).setCell ⟨w.heap.size, 9, none⟩ (.int .i64 0)).setCell ⟨w.heap.size, 10, none⟩ (.int .i64 0)).setCell ⟨w.heap.size, 11, none⟩ (.int .i64 0)).setCell ⟨w.heap.size, 12, none⟩ (.int .i64 0)).setCell ⟨w.heap.size, 13, none⟩ (.bool false)).cell? ⟨w.heap.size, 8, none⟩ = some (.slice none 0 0) := by rw [Lib.cell_of_heap hW]; rfl
            have e9 : ((((((((((((((w8.setCell ⟨w.heap.size, 0, none⟩ (.int .i64 0)).setCell ⟨w.heap.size, 1, none⟩ (.int .i64 0)).setCell ⟨w.heap.size, 2, none⟩ (.int .i64 0)).setCell ⟨w.heap.size, 3, none⟩ (.int .i64 0)).setCell ⟨w.heap.size, 4, none⟩ (.int .i64 0)).setCell ⟨w.heap.size, 5, none⟩ (.int .i64 0)).setCell ⟨w.heap.size, 6, none⟩ (.int .i64 0)).setCell ⟨w.heap.size, 7, none⟩ (.slice none 0 0)).setCell ⟨w.heap.size, 8, none⟩ (.slice none 0 0)).setCell ⟨w.heap.size, 9, none⟩ (.int .i64 0)).setCell ⟨w.heap.size, 10, none⟩ (.int .i64 0)).setCell ⟨w.heap.size, 11, none⟩ (.int .i64 0)).setCell ⟨w.heap.size, 12, none⟩ (.int .i64 0)).setCell ⟨w.heap.size, 13, none⟩ (.bool false)).cell? ⟨w.heap.size, 9, none⟩ = some (.int .i64 0) := by rw [Lib.cell_of_heap hW]; rfl
            have e10 : ((((((((((((((w8.setCell ⟨w.heap.size, 0, none⟩ (.int .i64 0)).setCell ⟨w.heap.size, 1, none⟩ (.int .i64 0)).setCell ⟨w.heap.size, 2, none⟩ (.int .i64 0)).setCell ⟨w.heap.size, 3, none⟩ (.int .i64 0)).setCell ⟨w.heap.size, 4, none⟩ (.int .i64 0)).setCell ⟨w.heap.size, 5, none⟩ (.int .i64 0)).setCell ⟨w.heap.size, 6, none⟩ (.int .i64 0)).setCell ⟨w.heap.size, 7, none⟩ (.slice none 0 0)).setCell ⟨w.heap.size, 8, none⟩ (.slice none 0 0)).setCell ⟨w.heap.size, 9, none⟩ (.int .i64 0)).setCell ⟨w.heap.size, 10, none⟩ (.int .i64 0)).setCell ⟨w.heap.size, 11, none⟩ (.int .i64 0)).setCell ⟨w.heap.size, 12, none⟩ (.int .i64 0)).setCell ⟨w.heap.size, 13, none⟩ (.bool false)).cell? ⟨w.heap.size, 10, none⟩ = some (.int .i64 0) := by rw [Lib.cell_of_heap hW]; rfl
            have e11 : ((((((((((((((w8.setCell ⟨w.heap.size, 0, none⟩ (.int .i64 0)).setCell ⟨w.heap.size, 1, none⟩ (.int .i64 0)).setCell ⟨w.heap.size, 2, none⟩ (.int .i64 0)).setCell ⟨w.heap.size, 3, none⟩ (.int .i64 0)).setCell ⟨w.heap.size, 4, none⟩ (.int .i64 0)).setCell ⟨w.heap.size, 5, none⟩ (.int .i64 0)).setCell ⟨w.heap.size, 6, none⟩ (.int .i64 0)).setCell ⟨w.heap.size, 7, none⟩ (.slice none 0 0)).setCell ⟨w.heap.size, 8, none⟩ (.slice none 0 0)).setCell ⟨w.heap.size, 9, none⟩ (.int .i64 0)).setCell ⟨w.heap.size, 10, none⟩ (.int .i64 0)).setCell ⟨w.heap.size, 11, none⟩ (.int .i64 0)).setCell ⟨w.heap.size, 12, none⟩ (.int .i64 0)).setCell ⟨w.heap.size, 13, none⟩ (.bool false)).cell? ⟨w.heap.size, 11, none⟩ = some (.int .i64 0) := by rw [Lib.cell_of_heap hW]; rfl
            have e12 : ((((((((((((((w8.setCell ⟨w.heap.size, 0, none⟩ (.int .i64 0)).setCell ⟨w.heap.size, 1, none⟩ (.int .i64 0)).setCell ⟨w.heap.size, 2, none⟩ (.int .i64 0)).setCell ⟨w.heap.size, 3, none⟩ (.int .i64 0)).setCell ⟨w.heap.size, 4, none⟩ (.int .i64 0)).setCell ⟨w.heap.size, 5, none⟩ (.int .i64 0)).setCell ⟨w.heap.size, 6, none⟩ (.int .i64 0)).setCell ⟨w.heap.size, 7, none⟩ (.slice none 0 0)).setCell ⟨w.heap.size, 8, none⟩ (.slice none 0 0)).setCell ⟨w.heap.size, 9, none⟩ (.int .i64 0)).setCell ⟨w.heap.size, 10, none⟩ (.int .i64 0)).setCell ⟨w.heap.size, 11, none⟩ (.int .i64 0)).setCell ⟨w.heap.size, 12, none⟩ (.int .i64 0)).setCell ⟨w.heap.size, 13, none⟩ (.bool false)).cell? ⟨w.heap.size, 12, none⟩ = some (.int .i64 0) := by rw [Lib.cell_of_heap hW]; rfl
            have e13 : ((((((((((((((w8.setCell ⟨w.heap.size, 0, none⟩ (.int .i64 0)).setCell ⟨w.heap.size, 1, none⟩ (.int .i64 0)).setCell ⟨w.heap.size, 2, none⟩ (.int .i64 0)).setCell ⟨w.heap.size, 3, none⟩ (.int .i64 0)).setCell ⟨w.heap.size, 4, none⟩ (.int .i64 0)).setCell ⟨w.heap.size, 5, none⟩ (.int .i64 0)).setCell ⟨w.heap.size, 6, none⟩ (.int .i64 0)).setCell ⟨w.heap.size, 7, none⟩ (.slice none 0 0)).setCell ⟨w.heap.size, 8, none⟩ (.slice none 0 0)).setCell ⟨w.heap.size, 9, none⟩ (.int .i64 0)).setCell ⟨w.heap.size, 10, none⟩ (.int .i64 0)).setCell ⟨w.heap.size, 11, none⟩ (.int .i64 0)).setCell ⟨w.heap.size, 12, none⟩ (.int .i64 0)).setCell ⟨w.heap.size, 13, none⟩ (.bool false)).cell? ⟨w.heap.size, 13, none⟩ = some (.bool false) := by rw [Lib.cell_of_heap hW]; rfl
            refine bodyPost_ret (v := .tuple #[.agg #[.int .i64 0, .int .i64 0, .int .i64 0, .int .i64 0, .int .i64 0, .int .i64 0, .int .i64 0, .slice none 0 0, .slice none 0 0, .int .i64 0, .int .i64 0, .int .i64 0, .int .i64 0, .bool false], .int .i64 6]) (by simp [results, Try.results66, go_sem, e0, e1, e2, e3, e4, e5, e6, e7, e8, e9, e10, e11, e12, e13]) rfl ?_
            rw [HDEF.out, if_pos HE.out]
            exact decOut_zero rfl ((((((((((((((hB8.setCell (Nat.le_refl _) _).setCell (Nat.le_refl _) _).setCell (Nat.le_refl _) _).setCell (Nat.le_refl _) _).setCell (Nat.le_refl _) _).setCell (Nat.le_refl _) _).setCell (Nat.le_refl _) _).setCell (Nat.le_refl _) _).setCell (Nat.le_refl _) _).setCell (Nat.le_refl _) _).setCell (Nat.le_refl _) _).setCell (Nat.le_refl _) _).setCell (Nat.le_refl _) _).setCell (Nat.le_refl _) _)
        · have HSEG := Lib.hid (hlnk.trans (show lnkN (refI T) (j + 1) st2 acc2 = lnkN (refI T) j (refI T (refI T st2).2).2 (acc2 ++ [((refI T st2).1, (refI T (refI T st2).2).1)]) from rfl))
          clear hlnk
          obtain ⟨c2, c3, f2, f3⟩ := hI.cells
          have hjp : (0 : Int) < (j : Int) + 1 := by omega
          go_wp2_with fail
          go_region_law (first
            | (refine step_append_row rfl (.tmp 108) (.tmp 114) 63 rfl (mb + 1) 77 j0 _ 2 16 Try.underlying63 hj jz jsz jby rfl (by decide) v2 acc2.length (acc2.flatMap Lnk.cells) rfl (hI.alloc hrm _).own2 _ (Lnk.cells ((refI T st2).1, (refI T (refI T st2).2).1)) rfl rfl (fun j u hj => by rw [World.cell?_alloc_at _ _ _ _ rfl]; simpa [Lnk.cells] using hj) (by intro u hu; simp [Lnk.cells] at hu; rcases hu with rfl | rfl <;> rfl) (by omega) (by decide) (by have := hI.lt; simp; omega) ?_; intro A' m' c' w' hown hg; have hI' := hI.alloc hrm (.cells #[.int .i64 (refI T st2).1, .int .i64 (refI T (refI T st2).2).1] 77); obtain ⟨f3, c3⟩ := hI'.facts2 hg)
            | (go_simp; go_at_call 87; refine (rint_any rb T _ _ (by first | with_reducible assumption | exact RdrR.drew (by with_reducible assumption)) (by omega)).mono ?_; rintro e wq ⟨rfl, hr, ho⟩; have hI := MInv.step (by first | with_reducible assumption | exact MInv.drew (by with_reducible assumption)) ho hrm; obtain ⟨c2, c3, f2, f3⟩ := hI.cells; have hlt2 := hI.lt))
          all_goals (go_wp2_with fail)
          all_goals (
            go_roundw
            case rel => exact ⟨j, _, _, _, by omega, by simp; omega, by go_num, (hr.alloc _).put2 hI' hg (by omega) _ _, hI'.put2 hab hown hg, HSEG.out⟩
            case measure => simp [intOf] <;> omega)
    · have HSEG := Lib.hid (hseg.trans (show segN (refI T) (j + 1) st acc = segN (refI T) j (refI T (refI T (refI T (refI T st).2).2).2).2 (acc ++ [((refI T st).1, (refI T (refI T st).2).1, (refI T (refI T (refI T st).2).2).1, (refI T (refI T (refI T (refI T st).2).2).2).1)]) from rfl))
      clear hseg
      obtain ⟨c2, c3, f2, f3⟩ := hI.cells
      have hjp : (0 : Int) < (j : Int) + 1 := by omega
      go_wp2_with fail
      go_region_law (first
        | (refine step_append_row rfl (.tmp 86) (.tmp 96) 62 rfl (mb + 1) 100 i0 _ 4 32 Try.underlying62 hi iz isz iby rfl (by decide) v acc.length (acc.flatMap Seg.cells) rfl (hI.alloc hrm _).own _ (Seg.cells ((refI T st).1, (refI T (refI T st).2).1, (refI T (refI T (refI T st).2).2).1, (refI T (refI T (refI T (refI T st).2).2).2).1)) rfl rfl (fun j u hj => by rw [World.cell?_alloc_at _ _ _ _ rfl]; simpa [Seg.cells] using hj) (by intro u hu; simp [Seg.cells] at hu; rcases hu with rfl | rfl | rfl | rfl <;> rfl) (by omega) (by decide) (by have := hI.lt; simp; omega) ?_; intro A' m' c' w' hown hg; have hI' := hI.alloc hrm (.cells #[.int .i64 (refI T st).1, .int .i64 (refI T (refI T st).2).1, .int .i64 (refI T (refI T (refI T st).2).2).1, .int .i64 (refI T (refI T (refI T (refI T st).2).2).2).1] 100); obtain ⟨f2, c2⟩ := hI'.facts hg)
        | (go_simp; go_at_call 87; refine (rint_any rb T _ _ (by first | with_reducible assumption | exact RdrR.drew (by with_reducible assumption)) (by omega)).mono ?_; rintro e wq ⟨rfl, hr, ho⟩; have hI := MInv.step (by first | with_reducible assumption | exact MInv.drew (by with_reducible assumption)) ho hrm; obtain ⟨c2, c3, f2, f3⟩ := hI.cells; have hlt2 := hI.lt))
      all_goals (go_wp2_with fail)
      all_goals (
        go_roundw
        case rel => exact ⟨j, _, _, _, by omega, by simp; omega, by go_num, (hr.alloc _).put hI' hg (by omega) _ _, hI'.put hab hown hg, HSEG.out⟩
        case measure => simp [intOf] <;> omega)
end MsgDecK
section Any
open Go.RowKit
/-- The reference's Decode, whatever it is given. -/
theorem rdecode_any (l : List UInt8) (w : World) (hs : l.length ≤ 100000) : Calls Try.prog 66 #[.string (bs l)] w fun e w' => DecOut w (decR l) e w' := by
  by_cases ho : (openV l).2 = 0
  · cases k1 : ((refI (Crc.body l) 0).1 == 1)
    · cases k2 : carB (refI (Crc.body l) 0).1
      · exact rdecode_none l w hs ho k1 k2
      · cases k3 : ((refI (Crc.body l) 0).1 == 2)
        · have k4 : ((refI (Crc.body l) 0).1 == 3) = true := by
            simpa [carB, k3] using k2
          exact rdecode_auth3 l w hs ho k1 k2 k3 k4
        · have k4 : ((refI (Crc.body l) 0).1 == 3) = false := by
            have : (refI (Crc.body l) 0).1 = 2 := by simpa using k3
            rw [this]; rfl
          exact rdecode_auth2 l w hs ho k1 k2 k3 k4
    · have k2 : carB (refI (Crc.body l) 0).1 = false := by
        have : (refI (Crc.body l) 0).1 = 1 := by simpa using k1
        rw [this]; rfl
      exact rdecode_rep l w hs ho k1 k2
  · exact rdecode_shut l w hs (by simpa using ho)
end Any
section MsgLawsF
open Go.RowKit
attribute [local go_sem] bs_size bs_get bs_append bs_extract bs_toList
set_option maxRecDepth 100000 in
set_option maxHeartbeats 4000000 in
theorem messageDecodes_long (l : List UInt8) (w : World) (hl : l.length ≤ maxLen) (h : 4000 < l.length) : Calls Try.prog 16 #[.string (bs l)] w fun e w' => e = .returned (.bool true) ∧ Below w.heap.size w w' := by
  unfold maxLen at hl
  go_enter Try.func16, Try.ntmps16
  go_wp2_with fail
  refine (alive37 _).mono ?_
  rintro e w1 ⟨rfl, hb⟩
  go_wp2_with fail
  go_ret
  exact ⟨rfl, hb⟩
/-- What was decoded, twice. -/
structure Inv22 (w : World) (b1 b2 : Nat) (p : Msg) (A : Option Addr) (c : Nat) (A' : Option Addr) (c' : Nat) (B : Option Addr) (d : Nat) (B' : Option Addr) (d' : Nat) (w' : World) : Prop where
  box1 : Blk w' b1 69 #[.int .i64 p.kind, .int .i64 p.fro, .int .i64 p.to, .int .i64 p.seq, .int .i64 p.time, .int .i64 p.aseq, .int .i64 p.aend, .slice A p.prof.length c, .slice A' p.links.length c', .int .i64 p.min, .int .i64 p.speed, .int .i64 p.mode, .int .i64 p.acc, .bool p.whole]
  box2 : Blk w' b2 69 #[.int .i64 p.kind, .int .i64 p.fro, .int .i64 p.to, .int .i64 p.seq, .int .i64 p.time, .int .i64 p.aseq, .int .i64 p.aend, .slice B p.prof.length d, .slice B' p.links.length d', .int .i64 p.min, .int .i64 p.speed, .int .i64 p.mode, .int .i64 p.acc, .bool p.whole]
  m1 : RdS cSeg w' w'.heap.size A p.prof
  m2 : RdS cLnk w' w'.heap.size A' p.links
  n1 : RdS cSeg w' w'.heap.size B p.prof
  n2 : RdS cLnk w' w'.heap.size B' p.links
  below : Below w.heap.size w w'
theorem Inv22.step {w w1 w2 : World} {b1 b2 : Nat} {p : Msg} {A A' B B' : Option Addr} {c c' d d' : Nat} (h : Inv22 w b1 b2 p A c A' c' B d B' d' w1) (hb : Below w1.heap.size w1 w2) : Inv22 w b1 b2 p A c A' c' B d B' d' w2 :=
  ⟨h.box1.now hb, h.box2.now hb, h.m1.now hb, h.m2.now hb, h.n1.now hb, h.n2.now hb, bel_then h.below h.below.size hb⟩
set_option maxRecDepth 100000 in
set_option maxHeartbeats 8000000 in
theorem messageDecodes_short (l : List UInt8) (w : World) (HR : ∀ (l : List UInt8) (w : World), l.length ≤ 100000 → Calls Try.prog 66 #[.string (bs l)] w fun e w' => DecOut w (decR l) e w') (h : l.length ≤ 4000) : Calls Try.prog 16 #[.string (bs l)] w fun e w' => e = .returned (.bool true) ∧ Below w.heap.size w w' := by
  have hsame := dec_same l
  have hok := (decP_ok l).1
  have hex : (decP l).2 = 0 → validB (decP l).1 = true ∧ encM (decP l).1 = l := dec_exact
  have hd := decode_any l w (by omega)
  have hr := fun W => HR l W (by omega)
  rw [← hsame] at hr
  unfold DecOut at hd
  clear hsame HR
  generalize hpq : decP l = pq at *
  obtain ⟨p, er⟩ := pq
  try dsimp only at hok hex
  have e63 : maxLen ≤ 9223372036854775807 := by decide
  have lp : p.prof.length ≤ 9223372036854775807 := Nat.le_trans hok.prof e63
  have lp' : p.links.length ≤ 9223372036854775807 := Nat.le_trans hok.links e63
  have HX := Lib.hid hex
  have HRR := Lib.hid hr
  have HDD := Lib.hid hd
  clear hex hr hd e63 hpq
  go_enter Try.func16, Try.ntmps16
  go_wp2_with fail
  refine HDD.out.mono ?_
  rintro e w1 ⟨A, c, A', c', rfl, hp1, hp2, hb⟩
  try dsimp only at hp1 hp2
  have hb1 : Below w1.heap.size w1 (w1.alloc (.cells #[.int .i64 p.kind, .int .i64 p.fro, .int .i64 p.to, .int .i64 p.seq, .int .i64 p.time, .int .i64 p.aseq, .int .i64 p.aend, .slice A p.prof.length c, .slice A' p.links.length c', .int .i64 p.min, .int .i64 p.speed, .int .i64 p.mode, .int .i64 p.acc, .bool p.whole] 69)) := (Below.refl _ _).alloc (Nat.le_refl _) _
  have hx1 : Blk (w1.alloc (.cells #[.int .i64 p.kind, .int .i64 p.fro, .int .i64 p.to, .int .i64 p.seq, .int .i64 p.time, .int .i64 p.aseq, .int .i64 p.aend, .slice A p.prof.length c, .slice A' p.links.length c', .int .i64 p.min, .int .i64 p.speed, .int .i64 p.mode, .int .i64 p.acc, .bool p.whole] 69)) w1.heap.size 69 #[.int .i64 p.kind, .int .i64 p.fro, .int .i64 p.to, .int .i64 p.seq, .int .i64 p.time, .int .i64 p.aseq, .int .i64 p.aend, .slice A p.prof.length c, .slice A' p.links.length c', .int .i64 p.min, .int .i64 p.speed, .int .i64 p.mode, .int .i64 p.acc, .bool p.whole] := Blk.new _ _ _ _ rfl
  have hc1 := bel_then hb hb.size hb1
  have hp1' := hp1.now hb1
  have hp2' := hp2.now hb1
  clear hp1 hp2 hb
  go_wp2_with fail
  generalize (w1.alloc (.cells #[.int .i64 p.kind, .int .i64 p.fro, .int .i64 p.to, .int .i64 p.seq, .int .i64 p.time, .int .i64 p.aseq, .int .i64 p.aend, .slice A p.prof.length c, .slice A' p.links.length c', .int .i64 p.min, .int .i64 p.speed, .int .i64 p.mode, .int .i64 p.acc, .bool p.whole] 69)) = w2 at *
  generalize w1.heap.size = b1 at *
  refine (HRR.out _).mono ?_
  rintro e w3 ⟨B, d, B', d', rfl, hn1, hn2, hb⟩
  try dsimp only at hn1 hn2
  have hb3 : Below w3.heap.size w3 (w3.alloc (.cells #[.int .i64 p.kind, .int .i64 p.fro, .int .i64 p.to, .int .i64 p.seq, .int .i64 p.time, .int .i64 p.aseq, .int .i64 p.aend, .slice B p.prof.length d, .slice B' p.links.length d', .int .i64 p.min, .int .i64 p.speed, .int .i64 p.mode, .int .i64 p.acc, .bool p.whole] 69)) := (Below.refl _ _).alloc (Nat.le_refl _) _
  have hI : Inv22 w b1 w3.heap.size p A c A' c' B d B' d' (w3.alloc (.cells #[.int .i64 p.kind, .int .i64 p.fro, .int .i64 p.to, .int .i64 p.seq, .int .i64 p.time, .int .i64 p.aseq, .int .i64 p.aend, .slice B p.prof.length d, .slice B' p.links.length d', .int .i64 p.min, .int .i64 p.speed, .int .i64 p.mode, .int .i64 p.acc, .bool p.whole] 69)) :=
    ⟨(hx1.now hb).now hb3, Blk.new _ _ _ _ rfl, (hp1'.now hb).now hb3, (hp2'.now hb).now hb3, hn1.now hb3, hn2.now hb3, bel_then (bel_then hc1 hc1.size hb) (bel_then hc1 hc1.size hb).size hb3⟩
  have hz1 := (hx1.now hb).lt
  clear hx1 hp1' hp2' hn1 hn2 hb hb3 hc1 hb1
  have HI := Lib.hid hI
  clear hI
  go_upto_region 5 with (fail)
  have hI := HI.out
  clear HI
  generalize (w3.alloc (.cells #[.int .i64 p.kind, .int .i64 p.fro, .int .i64 p.to, .int .i64 p.seq, .int .i64 p.time, .int .i64 p.aseq, .int .i64 p.aend, .slice B p.prof.length d, .slice B' p.links.length d', .int .i64 p.min, .int .i64 p.speed, .int .i64 p.mode, .int .i64 p.acc, .bool p.whole] 69)) = w4 at hI ⊢
  generalize w3.heap.size = b2 at hI ⊢
  have y0 := hI.box1.cell 0
  have y1 := hI.box1.cell 1
  have y2 := hI.box1.cell 2
  have y3 := hI.box1.cell 3
  have y4 := hI.box1.cell 4
  have y5 := hI.box1.cell 5
  have y6 := hI.box1.cell 6
  have y7 := hI.box1.cell 7
  have y8 := hI.box1.cell 8
  have y9 := hI.box1.cell 9
  have y10 := hI.box1.cell 10
  have y11 := hI.box1.cell 11
  have y12 := hI.box1.cell 12
  have y13 := hI.box1.cell 13
  simp only [List.getElem?_toArray, List.getElem?_cons_succ, List.getElem?_cons_zero] at y0 y1 y2 y3 y4 y5 y6 y7 y8 y9 y10 y11 y12 y13
  have z0 := hI.box2.cell 0
  have z1 := hI.box2.cell 1
  have z2 := hI.box2.cell 2
  have z3 := hI.box2.cell 3
  have z4 := hI.box2.cell 4
  have z5 := hI.box2.cell 5
  have z6 := hI.box2.cell 6
  have z7 := hI.box2.cell 7
  have z8 := hI.box2.cell 8
  have z9 := hI.box2.cell 9
  have z10 := hI.box2.cell 10
  have z11 := hI.box2.cell 11
  have z12 := hI.box2.cell 12
  have z13 := hI.box2.cell 13
  simp only [List.getElem?_toArray, List.getElem?_cons_succ, List.getElem?_cons_zero] at z0 z1 z2 z3 z4 z5 z6 z7 z8 z9 z10 z11 z12 z13
  have t0 : (er == er) = true := by simp
  by_cases h0 : er = 0
  · obtain ⟨hv, he⟩ := HX.out h0
    have HV := Lib.hid hv
    have HE := Lib.hid he
    have t1 : (er != 0) = false := by simp [h0]
    have t2 : (er == 0) = true := by simp [h0]
    clear hv he h0
    go_wp2_with fail
    refine (rSame_msg p p A c A' c' B d B' d' _ lp lp' hI.m1 hI.m2 lp lp' hI.n1 hI.n2).mono ?_
    rw [same_mm]
    rintro e w5 ⟨rfl, hb⟩
    have hI5 := hI.step hb
    clear hI hb
    clear y0 y1 y2 y3 y4 y5 y6 y7 y8 y9 y10 y11 y12 y13 z0 z1 z2 z3 z4 z5 z6 z7 z8 z9 z10 z11 z12 z13
    have y0 := hI5.box1.cell 0
    have y1 := hI5.box1.cell 1
    have y2 := hI5.box1.cell 2
    have y3 := hI5.box1.cell 3
    have y4 := hI5.box1.cell 4
    have y5 := hI5.box1.cell 5
    have y6 := hI5.box1.cell 6
    have y7 := hI5.box1.cell 7
    have y8 := hI5.box1.cell 8
    have y9 := hI5.box1.cell 9
    have y10 := hI5.box1.cell 10
    have y11 := hI5.box1.cell 11
    have y12 := hI5.box1.cell 12
    have y13 := hI5.box1.cell 13
    simp only [List.getElem?_toArray, List.getElem?_cons_succ, List.getElem?_cons_zero] at y0 y1 y2 y3 y4 y5 y6 y7 y8 y9 y10 y11 y12 y13
    go_wp2_with fail
    refine (valid_any p A c A' c' _ lp lp' hI5.m1 hI5.m2).mono ?_
    rw [HV.out]
    rintro e w6 ⟨rfl, hb⟩
    have hI6 := hI5.step hb
    clear hI5 hb
    clear y0 y1 y2 y3 y4 y5 y6 y7 y8 y9 y10 y11 y12 y13
    have y0 := hI6.box1.cell 0
    have y1 := hI6.box1.cell 1
    have y2 := hI6.box1.cell 2
    have y3 := hI6.box1.cell 3
    have y4 := hI6.box1.cell 4
    have y5 := hI6.box1.cell 5
    have y6 := hI6.box1.cell 6
    have y7 := hI6.box1.cell 7
    have y8 := hI6.box1.cell 8
    have y9 := hI6.box1.cell 9
    have y10 := hI6.box1.cell 10
    have y11 := hI6.box1.cell 11
    have y12 := hI6.box1.cell 12
    have y13 := hI6.box1.cell 13
    simp only [List.getElem?_toArray, List.getElem?_cons_succ, List.getElem?_cons_zero] at y0 y1 y2 y3 y4 y5 y6 y7 y8 y9 y10 y11 y12 y13
    go_wp2_with fail
    refine (encode_any p A c A' c' _ hok hI6.m1 hI6.m2).mono ?_
    rw [HE.out]
    rintro e w7 ⟨rfl, hb⟩
    have hI7 := hI6.step hb
    clear hI6 hb
    clear y0 y1 y2 y3 y4 y5 y6 y7 y8 y9 y10 y11 y12 y13
    go_wp2_with fail
    refine (alive37 _).mono ?_
    rintro e w8 ⟨rfl, hb⟩
    go_wp2_with fail
    go_ret
    exact ⟨by simp, (hI7.step hb).below⟩
  · have t1 : (er != 0) = true := by simp [h0]
    have t2 : (er == 0) = false := by simp [h0]
    clear h0
    go_wp2_with fail
    refine (rSame_msg p p A c A' c' B d B' d' _ lp lp' hI.m1 hI.m2 lp lp' hI.n1 hI.n2).mono ?_
    rw [same_mm]
    rintro e w5 ⟨rfl, hb⟩
    have hI5 := hI.step hb
    clear hI hb
    clear y0 y1 y2 y3 y4 y5 y6 y7 y8 y9 y10 y11 y12 y13 z0 z1 z2 z3 z4 z5 z6 z7 z8 z9 z10 z11 z12 z13
    go_wp2_with fail
    refine (alive37 _).mono ?_
    rintro e w8 ⟨rfl, hb⟩
    go_wp2_with fail
    go_ret
    exact ⟨by simp, (hI5.step hb).below⟩
end MsgLawsF
section Walk
open Go.RowKit
theorem messageDecodes_walk (l : List UInt8) (hl : l.length ≤ maxLen) (w : World) : Calls Try.prog 16 #[.string (bs l)] w fun e w' => e = .returned (.bool true) ∧ Below w.heap.size w w' := by
  by_cases h : 4000 < l.length
  · exact messageDecodes_long l w hl h
  · exact messageDecodes_short l w rdecode_any (by omega)
end Walk
end Go.Proofs.Ytlpkkcodmoklaaa
