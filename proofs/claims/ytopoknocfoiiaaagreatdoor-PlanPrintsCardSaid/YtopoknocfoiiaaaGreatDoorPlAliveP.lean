/- The chapter's examples: what they are. Plain facts for the laws of chapter 08. -/
import Derived.Test.YtopoknocfoiiaaaGreatDoorPlTxt
import Derived.Test.YtopoknocfoiiaaaGreatDoorPlParse
namespace Go.Proofs.YtopoknocfoiiaaaGreatDoor
set_option linter.unusedVariables false
set_option linter.unusedSimpArgs false
def exE : Lay := ⟨[108, 105, 110, 101], [[97], [98]], [⟨[97], 1, 20000, 0, 1000, 0, 0⟩, ⟨[98], 1, 20000, 0, 1000, 0, 1⟩], [⟨⟨0, 1⟩, ⟨1, 0⟩⟩], [⟨[115, 49], ⟨0, 1⟩, 0⟩], []⟩
@[irreducible] def txE : List UInt8 := [108, 97, 121, 111, 117, 116, 32, 108, 105, 110, 101, 10, 115, 101, 99, 116, 105, 111, 110, 32, 97, 10, 115, 101, 99, 116, 105, 111, 110, 32, 98, 10, 116, 114, 97, 99, 107, 32, 97, 32, 97, 32, 50, 48, 48, 48, 48, 32, 48, 32, 49, 48, 48, 48, 10, 116, 114, 97, 99, 107, 32, 98, 32, 98, 32, 50, 48, 48, 48, 48, 32, 48, 32, 49, 48, 48, 48, 10, 106, 111, 105, 110, 116, 32, 97, 32, 49, 32, 98, 32, 48, 10, 115, 105, 103, 110, 97, 108, 32, 115, 49, 32, 97, 32, 49, 32, 48, 10]
@[irreducible] def tx3 : List UInt8 := [108, 97, 121, 111, 117, 116, 32, 108, 105, 110, 101, 10, 115, 101, 99, 116, 105, 111, 110, 32, 97, 10, 116, 114, 97, 99, 107, 32, 97, 32, 120, 32, 50, 48, 48, 48, 48, 32, 48, 32, 49, 48, 48, 48, 10]
@[irreducible] def tx4 : List UInt8 := [108, 97, 121, 111, 117, 116, 32, 108, 105, 110, 101, 10]
theorem pdec1 (u : Nat) (h : u < 10) : Lib.decDigits u = [UInt8.ofNat (48 + u)] := by rw [Lib.decDigits, dif_pos h]
theorem pdec2 (u : Nat) (h : ¬ u < 10) : Lib.decDigits u = Lib.decDigits (u / 10) ++ [UInt8.ofNat (48 + u % 10)] := by rw [Lib.decDigits, dif_neg h]
theorem pit (n : Nat) : Lib.itoa (n : Int) = Lib.decDigits n := by
  rw [Lib.itoa, if_neg (by omega)]
  simp
theorem it20000 : Lib.itoa 20000 = [50, 48, 48, 48, 48] := by rw [show (20000 : Int) = ((20000 : Nat) : Int) from rfl, pit, pdec2 20000 (by omega), pdec2 _ (by omega), pdec2 _ (by omega), pdec2 _ (by omega), pdec1 _ (by omega)]; rfl
theorem in20000 : intF [50, 48, 48, 48, 48] = (20000, 0) := by rw [← it20000]; exact ints_ok 20000 (by omega)
theorem it0 : Lib.itoa 0 = [48] := by rw [show (0 : Int) = ((0 : Nat) : Int) from rfl, pit, pdec1 0 (by omega)]; rfl
theorem in0 : intF [48] = (0, 0) := by rw [← it0]; exact ints_ok 0 (by omega)
theorem it1000 : Lib.itoa 1000 = [49, 48, 48, 48] := by rw [show (1000 : Int) = ((1000 : Nat) : Int) from rfl, pit, pdec2 1000 (by omega), pdec2 _ (by omega), pdec2 _ (by omega), pdec1 _ (by omega)]; rfl
theorem in1000 : intF [49, 48, 48, 48] = (1000, 0) := by rw [← it1000]; exact ints_ok 1000 (by omega)
theorem it1 : Lib.itoa 1 = [49] := by rw [show (1 : Int) = ((1 : Nat) : Int) from rfl, pit, pdec1 1 (by omega)]; rfl
theorem in1 : intF [49] = (1, 0) := by rw [← it1]; exact ints_ok 1 (by omega)
theorem chkE : chkL exE = 0 := by decide +kernel
theorem prtE : prtL exE = (txE, 0) := by
  unfold prtL
  rw [if_pos chkE]
  have hw : linesL exE = [[layoutW, [108, 105, 110, 101]], [sectionW, [97]], [sectionW, [98]], [trackW, [97], [97], [50, 48, 48, 48, 48], [48], [49, 48, 48, 48]], [trackW, [98], [98], [50, 48, 48, 48, 48], [48], [49, 48, 48, 48]], [jointW, [97], [49], [98], [48]], [signalW, [115, 49], [97], [49], [48]]] := by
    simp [linesL, exE, secW, eltW, numsE, kwF, scAt, jntW, nmAt, sgnW, it20000, it1000, it0, it1]
  rw [hw]
  unfold txE
  decide +kernel
theorem parE : parL txE = (exE, 0, 0) := par_prt prtE
theorem par3 : parL tx3 = (zL, 3, 9) := by
  have hj : joinF [[layoutW, [108, 105, 110, 101]], [sectionW, [97]], [trackW, [97], [120], [50, 48, 48, 48, 48], [48], [49, 48, 48, 48]]] = (tx3, 0) := by unfold tx3; decide +kernel
  have hl := lines_join hj
  rw [par_go hl (by simp)]
  have h0 : readL zL (-1) [layoutW, [108, 105, 110, 101]] = (⟨[108, 105, 110, 101], [], [], [], [], []⟩, 0, 0) := by decide +kernel
  have h1 : readL ⟨[108, 105, 110, 101], [], [], [], [], []⟩ 0 [sectionW, [97]] = (⟨[108, 105, 110, 101], [[97]], [], [], [], []⟩, 1, 0) := by decide +kernel
  have h2 : readL ⟨[108, 105, 110, 101], [[97]], [], [], [], []⟩ 1 [trackW, [97], [120], [50, 48, 48, 48, 48], [48], [49, 48, 48, 48]] = (⟨[108, 105, 110, 101], [[97]], [], [], [], []⟩, 1, 9) := by
    have e2 : formF trackW = [110, 115, 105, 105, 105] := by decide
    refine readL_ref (by decide +kernel) ?_ ?_
    · simp only [List.headD_cons, List.tail_cons, e2]
      simp [intsOk, in20000, in0, in1000]
    · simp only [List.headD_cons, List.tail_cons, e2]
      simp [refsOk, valF, idxA]
  rw [readK_step h0, readK_step h1, readK_bad (by rw [h2]; decide), h2, endL_bad (by decide)]
theorem par4 : parL tx4 = (zL, 0, 2) := by
  have hj : joinF [[layoutW, [108, 105, 110, 101]]] = (tx4, 0) := by unfold tx4; decide +kernel
  have hl := lines_join hj
  rw [par_go hl (by simp)]
  have h0 : readL zL (-1) [layoutW, [108, 105, 110, 101]] = (⟨[108, 105, 110, 101], [], [], [], [], []⟩, 0, 0) := by decide +kernel
  rw [readK_step h0]
  exact endL_chk (by decide +kernel) (by decide)
end Go.Proofs.YtopoknocfoiiaaaGreatDoor
namespace Go.Proofs.YtopoknocfoiiaaaGreatDoor
set_option linter.unusedVariables false
set_option linter.unusedSimpArgs false
theorem nodup_lt : ∀ (n : Nat) (l : List Nat), l.Nodup → (∀ x ∈ l, x < n) → l.length ≤ n
  | 0, l, _, h => by
    cases l with
    | nil => simp
    | cons x r => exact absurd (h x (by simp)) (by omega)
  | n + 1, l, hn, h => by
    by_cases hm : n ∈ l
    · have h1 := nodup_lt n (l.erase n) (hn.erase n) (fun x hx => by
        have h2 := h x (List.mem_of_mem_erase hx)
        have h3 : x ≠ n := by
          rintro rfl
          exact List.Nodup.not_mem_erase hn hx
        omega)
      rw [List.length_erase_of_mem hm] at h1
      have := List.length_pos_of_mem hm
      omega
    · have h1 := nodup_lt n l hn (fun x hx => by
        have h2 := h x hx
        have h3 : x ≠ n := by rintro rfl; exact hm hx
        omega)
      omega
theorem ends_len : ∀ js : List Jnt, (endsL js).length = 2 * js.length
  | [] => rfl
  | j :: r => by
    have := ends_len r
    unfold endsL at this ⊢
    rw [List.flatMap_cons, List.length_append, this]
    simp
    omega
def endN (e : End2) : Nat := e.el.toNat * 4 + e.sd.toNat
theorem ends_mem {js : List Jnt} {e : End2} (h : e ∈ endsL js) : ∃ j ∈ js, e = j.a ∨ e = j.b := by
  unfold endsL at h
  rw [List.mem_flatMap] at h
  obtain ⟨j, h1, h2⟩ := h
  exact ⟨j, h1, by simpa using h2⟩
theorem jts_few {l : Lay} (h : chkL l = 0) : l.jts.length ≤ 64 := by
  obtain ⟨hc, _, _, hj, _, _⟩ := chkL_ok h
  obtain ⟨h1, h2⟩ := jnC_ok hj
  unfold cntB at hc
  simp only [Bool.and_eq_true, inB_iff, decide_eq_true_eq] at hc
  rw [List.all_eq_true] at h1
  have key : ∀ e ∈ endsL l.jts, (0 ≤ e.el ∧ e.el < 32) ∧ 0 ≤ e.sd ∧ e.sd < 4 := by
    intro e he
    obtain ⟨j, hj, h3⟩ := ends_mem he
    obtain ⟨a1, a2, _⟩ := jntB_iff (h1 j hj)
    rcases h3 with rfl | rfl
    · have := exB_iff a1; omega
    · have := exB_iff a2; omega
  have hn : ((endsL l.jts).map endN).Nodup := by
    unfold List.Nodup
    rw [List.pairwise_map]
    refine List.Pairwise.imp_of_mem ?_ h2
    intro a b ha hb hne he
    have ka := key a ha
    have kb := key b hb
    unfold endN at he
    apply hne
    obtain ⟨a1, a2⟩ := a
    obtain ⟨b1, b2⟩ := b
    simp only at *
    rw [End2.mk.injEq]
    omega
  have := nodup_lt 128 _ hn (fun x hx => by
    obtain ⟨e, he, rfl⟩ := List.mem_map.1 hx
    have := key e he
    unfold endN
    omega)
  rw [List.length_map, ends_len] at this
  omega
theorem prt_len {l : Lay} {t : List UInt8} (h : prtL l = (t, 0)) : t.length ≤ 32768 := by
  unfold prtL at h
  split at h
  · unfold joinF at h
    repeat' split at h
    · simp at h
    · simp only [Prod.mk.injEq] at h
      rw [← h.1]; omega
    · simp at h
  · rename_i hc
    simp only [Prod.mk.injEq] at h
    exact absurd h.2 hc
theorem prt_no {l : Lay} {c : Int} (h : chkL l = c) (hc : c ≠ 0) : prtL l = ([], c) := by unfold prtL; rw [if_neg (by rw [h]; exact hc), h]
end Go.Proofs.YtopoknocfoiiaaaGreatDoor
