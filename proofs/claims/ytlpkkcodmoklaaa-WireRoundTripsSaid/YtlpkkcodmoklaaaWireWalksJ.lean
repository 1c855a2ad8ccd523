/- The walk of wire.TakeInts. -/
import Derived.Test.YtlpkkcodmoklaaaWireWalksI
namespace Go.Proofs.Ytlpkkcodmoklaaa
open Go.RowKit
attribute [local go_sem] bs_size bs_get bs_append bs_extract bs_toList
theorem info3 : (Try.prog.info? 3).map (fun i => (i.zero, i.size, i.bytes)) = some (some (.int .i64 0), 1, 8) := by kernel_rfl
/-- What a call that takes a list leaves. -/
def TakesL (r : List Int × Int × Int) (w : World) (e : Ending) (w' : World) : Prop := ∃ v, e = .returned (.tuple #[v, .int .i64 r.2.1, .int .i64 r.2.2]) ∧ Rd w' w'.heap.size 1 v r.1.length (cellsI r.1) ∧ Below w.heap.size w w'
theorem own_keep {w w' : World} {base : Nat} {e : TypeId} {size n : Nat} {v : Value} {xs : List Value} (h : w.ownsRow base e size v n xs) (hb : Below w.heap.size w w') : w'.ownsRow base e size v n xs :=
  h.kept (row := none) ⟨hb.os, hb.tape, hb.output, hb.size, fun i hi _ => hb.block i hi⟩ (by cases hv : v.ownBlock <;> simp)
theorem rd_nil (w : World) (B size : Nat) : Rd w B size (.slice none 0 0) 0 [] := ⟨by simp, none, 0, rfl, fun h => absurd h (by omega)⟩
theorem cellsI_set (acc : List Int) (m : Nat) (x : Int) (hm : 0 < m) : (cellsI acc ++ List.replicate m (Value.int .i64 0)).set acc.length (Value.int .i64 x) = cellsI (acc ++ [x]) ++ List.replicate (m - 1) (Value.int .i64 0) := by
  obtain ⟨q, rfl⟩ : ∃ q, m = q + 1 := ⟨m - 1, by omega⟩
  rw [List.set_append_right _ _ (by rw [cellsI_length]; exact Nat.le_refl _), cellsI_length, Nat.sub_self, List.replicate_succ, List.set_cons_zero, cellsI_snoc]
  simp
set_option maxRecDepth 100000 in
set_option maxHeartbeats 2000000 in
theorem takeInts_any (l : List UInt8) (at' most : Int) (w : World) (hs : l.length ≤ 1000000) (h1 : -9223372036854775808 ≤ at') (h2 : at' ≤ 9223372036854775807) (h3 : -9223372036854775808 ≤ most) (h4 : most ≤ 9223372036854775807) :
    Calls Try.prog 36 #[.string (bs l), .int .i64 at', .int .i64 most] w (TakesL (Wire.takeL l at' most) w) := by
  obtain ⟨i0, hi, hz0, hz1, hz2⟩ := info_parts info3
  obtain ⟨n, nx, er, ht⟩ : ∃ n nx er, Wire.takeC l at' most = (n, nx, er) := ⟨_, _, _, rfl⟩
  have htt : Wire.takeL l at' most = if er = 0 then Wire.takeIs l n [] nx else ([], 0, er) := by unfold Wire.takeL; rw [ht]
  have hnx : er = 0 → 0 ≤ nx ∧ nx + n ≤ l.length := fun h => by
    have := Wire.takeC_bd (l := l) (at' := at') (most := most) (by rw [ht]; exact h)
    rw [ht] at this
    have h5 := this.2.1
    have h6 := this.2.2.1
    simp only at h5 h6
    omega
  have HT := Lib.hid ht
  have HI := Lib.hid htt
  clear ht htt
  go_enter Try.func36, Try.ntmps36
  go_wp2_with fail
  refine (takeCount_any l at' most _ (by omega) h1 h2 h3 h4).mono ?_
  rw [HT.out]
  rintro e w1 ⟨rfl, hb⟩
  by_cases he : er = 0
  · have hbe : (er != 0) = false := by rw [he]; rfl
    obtain ⟨hn1, hn2⟩ := hnx he
    have HE := Lib.hid he
    clear he hnx
    go_wp2_with ((with_reducible refine wpList_make_full _ rfl (.tmp 25) (.tmp 25) 41 rfl w.heap.size 3 i0 _ 1 Try.underlying41 hi hz0 hz1 _ _ _ _ n rfl rfl rfl rfl (by rw [hz2]; omega) (by unfold maxLen; omega) hb.size ?_); intro w2 hown hgr)
    have hbel : Below w.heap.size w w2 := hb.grown hgr hb.size (fun k hk => by cases hk)
    have hown0 : w2.ownsRow w.heap.size 3 1 (.slice (some ⟨w1.heap.size, 0, none⟩) n n) n (List.replicate n (.int .i64 0)) := by
      have e : (madeCells (Value.int .i64 0).cells (n * 1)).toList = List.replicate n (.int .i64 0) := by
        rw [Nat.mul_one]
        exact toList_madeCells_one _ n
      rw [e] at hown
      exact hown
    clear hown hgr
    generalize w1.heap.size = g at hown0
    go_loopw [10, 29] (fun t i wr => ∃ (k : Nat) (acc : List Int) (p : Int), k ≤ n ∧ acc.length = k ∧ i = .int .i64 k ∧ t = .int .i64 p ∧ 0 ≤ p ∧ p ≤ l.length ∧ Wire.takeIs l n [] nx = Wire.takeIs l (n - k) acc p ∧
        wr.ownsRow w.heap.size 3 1 (.slice (some ⟨g, 0, none⟩) n n) n (cellsI acc ++ List.replicate (n - k) (.int .i64 0)) ∧ Below w.heap.size w wr) (fun _ i _ => (n - intOf i).toNat)
    case atStart => exact ⟨0, [], nx, by omega, rfl, rfl, rfl, hn1, by omega, rfl, hown0, hbel⟩
    case round =>
      obtain ⟨k, acc, p, hk, hacc, rfl, rfl, hp1, hp2, hrec, hown, hbr⟩ := hrel
      clear hown0 hbel
      by_cases hlt : k < n
      · obtain ⟨x, nx', er', hti⟩ : ∃ x nx' er', Wire.takeI l p = (x, nx', er') := ⟨_, _, _, rfl⟩
        have hx := Wire.takeI_bd l p
        have hnx' : er' = 0 → 0 ≤ nx' ∧ nx' ≤ l.length := fun h => by
          have := Wire.takeI_next (l := l) (at' := p) (by rw [hti]; exact h)
          rw [hti] at this
          exact this
        obtain ⟨q, hq⟩ : ∃ q, n - k = q + 1 := ⟨n - k - 1, by omega⟩
        have hq' : n - (k + 1) = q := by omega
        have hcs := cellsI_set acc (n - k) x (by omega)
        have hget : (cellsI acc ++ List.replicate (n - k) (Value.int .i64 0))[k]? = some (.int .i64 0) := by
          rw [List.getElem?_append_right (by rw [cellsI_length]; omega), cellsI_length, hacc, Nat.sub_self, hq]
          rfl
        have hrec2 : Wire.takeIs l (n - k) acc p = if er' = 0 then Wire.takeIs l q (acc ++ [x]) nx' else ([], 0, er') := by
          rw [hq, Wire.takeIs, hti]
        rw [hacc, show n - k - 1 = n - (k + 1) by omega] at hcs
        have HR := Lib.hid hrec2
        have HT2 := Lib.hid hti
        have HCS := Lib.hid hcs
        have HQ := Lib.hid hq'
        have HA := Lib.hid hacc
        have HG := Lib.hid hget
        have HRec := Lib.hid hrec
        clear hrec2 hti hcs hq hq' hacc hget hrec hx
        go_wp2_with fail
        refine (takeInt_any l p _ (by omega) (by omega) (by omega)).mono ?_
        rw [HT2.out]
        rintro e w3 ⟨rfl, hb3⟩
        have hown3 := own_keep hown hb3
        have hcell := (hown3.cellAt k (by omega)).trans HG.out
        have hfz := hown3.frozenAt k
        have hst := (hown3.stored k (.int .i64 x)).1
        rw [HCS.out] at hst
        have hbr3 : Below w.heap.size w w3 := hbr.trans (hb3.mono hbr.size)
        have hbr4 : Below w.heap.size w (w3.setCell ⟨g, k, none⟩ (.int .i64 x)) := hbr3.setCell (hown.lt g rfl).1 _
        clear hown hown3 hbr hbr3 hb3
        by_cases he' : er' = 0
        · have hbe' : (er' != 0) = false := by rw [he']; rfl
          obtain ⟨hq1, hq2⟩ := hnx' he'
          have HE' := Lib.hid he'
          clear he' hnx'
          go_wp2_with fail
          go_roundw
          case rel => exact ⟨k + 1, acc ++ [x], nx', by omega, by rw [List.length_append, HA.out]; rfl, by go_num, rfl, hq1, hq2, by rw [HRec.out, HR.out, if_pos HE'.out, HQ.out], hst, hbr4⟩
          case measure => simp [intOf] <;> omega
        · have hbe' : (er' != 0) = true := by rw [bne_iff_ne]; exact he'
          have hfin : Wire.takeL l at' most = ([], 0, er') := by rw [HI.out, if_pos HE.out, HRec.out, HR.out, if_neg he']
          have HF := Lib.hid hfin
          clear he' hnx' hfin
          go_wp2_with fail
          go_ret3
          exact ⟨_, by rw [HF.out]; rfl, by rw [HF.out]; exact rd_nil _ _ _, hbr4⟩
      · have hkn : n - k = 0 := by omega
        have hfin : Wire.takeL l at' most = (acc, p, 0) := by rw [HI.out, if_pos HE.out, hrec, hkn, Wire.takeIs]
        have hln : acc.length = n := by omega
        rw [hkn] at hown
        have HF := Lib.hid hfin
        have HL := Lib.hid hln
        clear hfin hrec hacc hkn hln
        go_wp2_with fail
        go_ret3
        refine ⟨_, by rw [HF.out]; rfl, ?_, hbr⟩
        rw [HF.out]
        show Rd wr wr.heap.size 1 _ acc.length (cellsI acc)
        have hr := Rd.of_own hown
        simp only [List.replicate_zero, List.append_nil] at hr
        rw [HL.out]
        exact hr
  · have hbe : (er != 0) = true := by rw [bne_iff_ne]; exact he
    have HE := Lib.hid he
    clear he hnx
    go_wp2_with fail
    go_ret3
    exact ⟨_, by rw [HI.out, if_neg HE.out]; rfl, by rw [HI.out, if_neg HE.out]; exact rd_nil _ _ _, hb⟩
end Go.Proofs.Ytlpkkcodmoklaaa
