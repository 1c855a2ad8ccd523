/- The walk of Made: a journal that is appended entry by entry. -/
import Derived.Test.YtnckainiphlndaaDoorJnAlive
namespace Go.Proofs.YtnckainiphlndaaDoor
set_option linter.unusedVariables false
set_option linter.unusedSimpArgs false
open Go.RowKit
attribute [local go_sem] bs_size bs_get bs_append bs_extract bs_toList
/-- A function that gives a journal. -/
def JPost (w : World) (j : List Ent) (e : Ending) (w' : World) : Prop := ∃ A cap, e = .returned (.slice A j.length cap) ∧ (j.length ≤ maxLen ∧ j.length ≤ cap) ∧ RdS cE w' (Lt w') A j ∧ Below w.heap.size w w'
theorem str_at {w : World} {S : Nat → Prop} {A : Option Addr} {l : List (List UInt8)} (h : RdS cS w S A l) {i : Nat} (hi : i < l.length) :
    ∃ b off, A = some ⟨b, off, none⟩ ∧ l[i].length ≤ maxLen ∧ w.cell? ⟨b, off + i, none⟩ = some (.string (bs l[i])) := by
  obtain ⟨b, off, ys, h1, _, ⟨rfl, h3⟩, h4⟩ := h.el hi
  have := h4 0 _ rfl
  exact ⟨b, off, h1, h3, by simpa [cS] using this⟩
theorem madeG_at (ts : List (List UInt8)) (k : Nat) (j : List Ent) (h : k < ts.length) : madeG k j (ts.drop k) = madeG (k + 1) (addF j k ts[k]) (ts.drop (k + 1)) := by
  rw [List.drop_eq_getElem_cons h, madeG]
set_option maxRecDepth 100000 in
set_option maxHeartbeats 8000000 in
theorem made_any (ts : List (List UInt8)) (A : Option Addr) (cap : Nat) (w : World) (E : Env w) (hr : RdS cS w (Lt w) A ts) (hl : ts.length ≤ 100000) :
    Calls Tryd.prog 15 #[.slice A ts.length cap] w (JPost w (madeF ts)) := by
  go_enter Tryd.func15, Tryd.ntmps15
  go_wp2
  go_loopw [3, 10] (fun v i wr => ∃ (k : Nat) (j : List Ent) (A' : Option Addr) (c' : Nat), k ≤ ts.length ∧ i = .int .i64 k ∧ v = .slice A' j.length c' ∧ (j.length ≤ maxLen ∧ j.length ≤ c') ∧ RdS cE wr (Lt wr) A' j ∧ Below w.heap.size w wr ∧ Hid (madeF ts = madeG k j (ts.drop k))) (fun _ i _ => (ts.length - intOf i).toNat)
  case atStart => exact ⟨0, [], none, 0, Nat.zero_le _, rfl, rfl, by simp, RdS.nil _ _ _ _, Below.refl _ _, Lib.hid rfl⟩
  case round =>
    obtain ⟨k, j, A', c', hk, rfl, rfl, hj, hrj, hbr, HM⟩ := hrel
    by_cases hlt : k < ts.length
    · obtain ⟨b, off, rfl, hx, x0⟩ := str_at (hr.now hbr) hlt
      have hm := madeG_at ts k j hlt
      have HM2 : Hid (madeF ts = madeG (k + 1) (addF j k ts[k]) (ts.drop (k + 1))) := Lib.hid (HM.out.trans hm)
      clear hm
      generalize ts[k] = s at hx x0 HM2
      cases hap : appF j k s with
      | mk a x =>
        have hki : I64n (k : Int) := by unfold I64n; omega
        go_wp2_with fail
        refine (appendC hap A' c' _ (E.now hbr) hrj hj.1 hj.2 hki hx).mono ?_
        rintro e w2 ⟨A2, c2, rfl, hl2, ha2, hb2⟩
        have hB2 := bel_then hbr hbr.size hb2
        have hrj2 := hrj.now hb2
        by_cases h0 : x = 0
        · subst h0
          have HA : Hid (addF j k s = a) := Lib.hid (by unfold addF; rw [hap]; rfl)
          go_wp2_with fail
          go_roundw
          case rel => exact ⟨k + 1, a, A2, c2, by omega, by go_num, rfl, hl2, ha2, hB2, Lib.hid (by rw [HM2.out, HA.out])⟩
          case measure => simp [intOf] <;> omega
        · have HA : Hid (addF j k s = j) := Lib.hid (by unfold addF; rw [hap, if_neg h0])
          have hxb : (x == 0) = false := by simpa using h0
          go_wp2_with fail
          go_roundw
          case rel => exact ⟨k + 1, j, A', c', by omega, by go_num, rfl, hj, hrj2, hB2, Lib.hid (by rw [HM2.out, HA.out])⟩
          case measure => simp [intOf] <;> omega
    · have HF : Hid (madeF ts = j) := Lib.hid (by rw [HM.out, List.drop_of_length_le (by omega)]; rfl)
      go_wp2_with fail
      go_ret
      refine ⟨A', c', by rw [HF.out]; rfl, ?_, ?_, hbr⟩
      · rw [HF.out]; exact hj
      · rw [HF.out]; exact hrj
end Go.Proofs.YtnckainiphlndaaDoor
