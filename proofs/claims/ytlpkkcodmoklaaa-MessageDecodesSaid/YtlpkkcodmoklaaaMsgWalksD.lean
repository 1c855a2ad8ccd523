/- The walk of the reference's comparison of authorities. -/
import Derived.Test.YtlpkkcodmoklaaaMsgWalksC
namespace Go.Proofs.Ytlpkkcodmoklaaa
set_option linter.unusedVariables false
set_option linter.unusedSimpArgs false
open Go.RowKit
attribute [local go_sem high] eq_seg eq_lnk eq_rep
set_option maxRecDepth 100000 in
set_option maxHeartbeats 2000000 in
theorem sameAuth_any (m n : Msg) (A : Option Addr) (c : Nat) (A' : Option Addr) (c' : Nat) (B : Option Addr) (d : Nat) (B' : Option Addr) (d' : Nat) (w : World)
    (hlp : m.prof.length ≤ 9223372036854775807) (hll : m.links.length ≤ 9223372036854775807) (hp : RdS cSeg w w.heap.size A m.prof) (hl : RdS cLnk w w.heap.size A' m.links)
    (hnp : n.prof.length ≤ 9223372036854775807) (hnl : n.links.length ≤ 9223372036854775807) (hq : RdS cSeg w w.heap.size B n.prof) (hr : RdS cLnk w w.heap.size B' n.links) :
    Calls Try.prog 77 #[.agg #[.int .i64 m.aseq, .int .i64 m.aend, .slice A m.prof.length c, .slice A' m.links.length c'], .agg #[.int .i64 n.aseq, .int .i64 n.aend, .slice B n.prof.length d, .slice B' n.links.length d']] w fun e w' => e = .returned (.bool (sameAuthB m n)) ∧ Below w.heap.size w w' := by
  by_cases hl0 : m.links.length = n.links.length
  · have hn0 : ((m.links.length : Int) != (n.links.length : Int)) = false := by simp [hl0]
    have HL := Lib.hid hl0
    clear hl0
    go_enter Try.func77, Try.ntmps77
    go_wp2_with (first
      | (go_at_call 91; refine (rSame10_any _ _ _ _ _ _ _ hlp hnp (hp.now (by (repeat' (first | (with_reducible exact Below.refl _ _) | (with_reducible assumption) | (with_reducible refine Below.drewN ?_ _) | (with_reducible refine Below.drew ?_) | (with_reducible refine Below.alloc ?_ ?_ _) | (with_reducible refine Below.setCell ?_ ?_ _) | (with_reducible exact Nat.le_refl _) | (with_reducible exact Below.size (by assumption)) | omega | (simp only [World.size_alloc, World.size_setCell, World.size_drew]; omega) | (simp; done) | (simp; omega))))) (hq.now (by (repeat' (first | (with_reducible exact Below.refl _ _) | (with_reducible assumption) | (with_reducible refine Below.drewN ?_ _) | (with_reducible refine Below.drew ?_) | (with_reducible refine Below.alloc ?_ ?_ _) | (with_reducible refine Below.setCell ?_ ?_ _) | (with_reducible exact Nat.le_refl _) | (with_reducible exact Below.size (by assumption)) | omega | (simp only [World.size_alloc, World.size_setCell, World.size_drew]; omega) | (simp; done) | (simp; omega)))))).mono ?_; rintro e w1 ⟨rfl, hb1⟩; have hB1 := bthru (w := w) hb1 (by (repeat' (first | (with_reducible exact Below.refl _ _) | (with_reducible assumption) | (with_reducible refine Below.drewN ?_ _) | (with_reducible refine Below.drew ?_) | (with_reducible refine Below.alloc ?_ ?_ _) | (with_reducible refine Below.setCell ?_ ?_ _) | (with_reducible exact Nat.le_refl _) | (with_reducible exact Below.size (by assumption)) | omega | (simp only [World.size_alloc, World.size_setCell, World.size_drew]; omega) | (simp; done) | (simp; omega)))); have hc1 := bcell hb1; have hz1 := hB1.size))
    all_goals try (go_ret; refine ⟨?_, ?_⟩; (focus (first | rfl | (refine ret_b ?_; first | rfl | (rw [Bool.eq_iff_iff]; first | (simp [sameAuthB, and_assoc, *]; done) | (simp_all [sameAuthB, and_assoc]; done) | (simp_all [sameAuthB, and_assoc]; omega))))); (focus (repeat' (first | (with_reducible exact Below.refl _ _) | (with_reducible assumption) | (with_reducible refine Below.drewN ?_ _) | (with_reducible refine Below.drew ?_) | (with_reducible refine Below.alloc ?_ ?_ _) | (with_reducible refine Below.setCell ?_ ?_ _) | (with_reducible exact Nat.le_refl _) | (with_reducible exact Below.size (by assumption)) | omega | (simp only [World.size_alloc, World.size_setCell, World.size_drew]; omega) | (simp; done) | (simp; omega)))))
    have hz2 := hb1.size
    simp only [World.size_alloc] at hz2
    have b1 : w1.cell? ⟨w.heap.size, 3, none⟩ = some (.slice A' m.links.length c') := by
      rw [hc1 _ _ (by rw [World.size_alloc, World.size_alloc]; omega)]
      simp
    have b2 : w1.cell? ⟨w.heap.size + 1, 3, none⟩ = some (.slice B' n.links.length d') := by
      rw [hc1 _ _ (by rw [World.size_alloc, World.size_alloc]; omega)]
      simp
    have hg : sameAuthB m n = decide (m.links = n.links) := by
      rw [Bool.eq_iff_iff]
      simp_all [sameAuthB]
    have HG := Lib.hid hg
    clear hg hc1 hb1
    have hl1 := (hl.below hB1).more hz1
    have hr1 := (hr.below hB1).more hz1
    clear hl hr hp hq
    go_loopw [38] (fun i wr => ∃ k q : Nat, k ≤ m.links.length ∧ i = .int .i64 k ∧ m.links.take k = n.links.take k ∧ wr = w1.drewN q) (fun i _ => (m.links.length - intOf i).toNat)
    case atStart => exact ⟨0, 0, by omega, rfl, by simp, rfl⟩
    case round =>
      obtain ⟨k, q, hk, rfl, htk, rfl⟩ := hrel
      have HK := Lib.hid htk
      clear htk
      by_cases hlt : k < m.links.length
      · have hlb : k < n.links.length := by have := HL.out; omega
        obtain ⟨p, off, rfl, _, _, x0, x1⟩ := lnk_at hl1 hlt
        obtain ⟨p', off', rfl, _, _, y0, y1⟩ := lnk_at hr1 hlb
        have HTA := Lib.hid (show m.links.take (k + 1) = m.links.take k ++ [m.links[k]] from List.take_succ_eq_append_getElem hlt)
        have HTB := Lib.hid (show n.links.take (k + 1) = n.links.take k ++ [n.links[k]] from List.take_succ_eq_append_getElem hlb)
        have HDA := Lib.hid (show m.links[k]? = some m.links[k] from List.getElem?_eq_getElem hlt)
        have HDB := Lib.hid (show n.links[k]? = some n.links[k] from List.getElem?_eq_getElem hlb)
        clear hl1 hr1
        generalize m.links[k] = x at x0 x1 HTA HDA
        generalize n.links[k] = y at y0 y1 HTB HDB
        obtain ⟨p1, p2⟩ := x
        obtain ⟨q1, q2⟩ := y
        have hki : (k : Int) < (m.links.length : Int) := by omega
        have hki2 : (k : Int) < (n.links.length : Int) := by omega
        go_wp2_with fail
        go_quiet (fail)
        go_wp2_with fail
        · rename_i hd
          have hf : ¬ m.links = n.links := by
            intro e
            have h1 := HDA.out
            rw [e, HDB.out] at h1
            simp [lnkEq, Option.some.inj h1] at hd
          go_ret
          exact ⟨by rw [HG.out]; simp [hf], Below.drewN (Below.drewN hB1 _) _⟩
        · rename_i hd
          go_roundw
          case rel => exact ⟨k + 1, _, by omega, by go_num, by rw [HTA.out, HTB.out, HK.out]; simp [lnkEq] at hd; simp [hd], rfl⟩
          case measure => simp [intOf] <;> omega
      · have hf : m.links = n.links := by
          have h1 := HK.out
          have h2 := HL.out
          rwa [List.take_of_length_le (by omega), List.take_of_length_le (by omega)] at h1
        have HF := Lib.hid hf
        clear hf
        go_wp2_with fail
        go_ret
        exact ⟨by rw [HG.out]; simp [HF.out], Below.drewN hB1 _⟩
  · have hn0 : ((m.links.length : Int) != (n.links.length : Int)) = true := by rw [bne_iff_ne]; omega
    have hne : ¬ m.links = n.links := fun e => hl0 (by rw [e])
    clear hl0
    go_enter Try.func77, Try.ntmps77
    go_wp2_with (first
      | (go_at_call 91; refine (rSame10_any _ _ _ _ _ _ _ hlp hnp (hp.now (by (repeat' (first | (with_reducible exact Below.refl _ _) | (with_reducible assumption) | (with_reducible refine Below.drewN ?_ _) | (with_reducible refine Below.drew ?_) | (with_reducible refine Below.alloc ?_ ?_ _) | (with_reducible refine Below.setCell ?_ ?_ _) | (with_reducible exact Nat.le_refl _) | (with_reducible exact Below.size (by assumption)) | omega | (simp only [World.size_alloc, World.size_setCell, World.size_drew]; omega) | (simp; done) | (simp; omega))))) (hq.now (by (repeat' (first | (with_reducible exact Below.refl _ _) | (with_reducible assumption) | (with_reducible refine Below.drewN ?_ _) | (with_reducible refine Below.drew ?_) | (with_reducible refine Below.alloc ?_ ?_ _) | (with_reducible refine Below.setCell ?_ ?_ _) | (with_reducible exact Nat.le_refl _) | (with_reducible exact Below.size (by assumption)) | omega | (simp only [World.size_alloc, World.size_setCell, World.size_drew]; omega) | (simp; done) | (simp; omega)))))).mono ?_; rintro e w1 ⟨rfl, hb1⟩; have hB1 := bthru (w := w) hb1 (by (repeat' (first | (with_reducible exact Below.refl _ _) | (with_reducible assumption) | (with_reducible refine Below.drewN ?_ _) | (with_reducible refine Below.drew ?_) | (with_reducible refine Below.alloc ?_ ?_ _) | (with_reducible refine Below.setCell ?_ ?_ _) | (with_reducible exact Nat.le_refl _) | (with_reducible exact Below.size (by assumption)) | omega | (simp only [World.size_alloc, World.size_setCell, World.size_drew]; omega) | (simp; done) | (simp; omega)))); have hc1 := bcell hb1; have hz1 := hB1.size))
    all_goals (go_ret; refine ⟨?_, ?_⟩; (focus (first | rfl | (refine ret_b ?_; first | rfl | (rw [Bool.eq_iff_iff]; first | (simp [sameAuthB, and_assoc, *]; done) | (simp_all [sameAuthB, and_assoc]; done) | (simp_all [sameAuthB, and_assoc]; omega))))); (focus (repeat' (first | (with_reducible exact Below.refl _ _) | (with_reducible assumption) | (with_reducible refine Below.drewN ?_ _) | (with_reducible refine Below.drew ?_) | (with_reducible refine Below.alloc ?_ ?_ _) | (with_reducible refine Below.setCell ?_ ?_ _) | (with_reducible exact Nat.le_refl _) | (with_reducible exact Below.size (by assumption)) | omega | (simp only [World.size_alloc, World.size_setCell, World.size_drew]; omega) | (simp; done) | (simp; omega)))))
theorem sameAuth_zero (m : Msg) (A : Option Addr) (c : Nat) (A' : Option Addr) (c' : Nat) (w : World)
    (hlp : m.prof.length ≤ 9223372036854775807) (hll : m.links.length ≤ 9223372036854775807) (hp : RdS cSeg w w.heap.size A m.prof) (hl : RdS cLnk w w.heap.size A' m.links) :
    Calls Try.prog 77 #[.agg #[.int .i64 m.aseq, .int .i64 m.aend, .slice A m.prof.length c, .slice A' m.links.length c'], .agg #[.int .i64 0, .int .i64 0, .slice none 0 0, .slice none 0 0]] w fun e w' => e = .returned (.bool (sameAuthB m Msg.zero)) ∧ Below w.heap.size w w' :=
  sameAuth_any m Msg.zero A c A' c' none 0 none 0 w hlp hll hp hl (by decide) (by decide) (RdS.nil _ _ _ _) (RdS.nil _ _ _ _)
end Go.Proofs.Ytlpkkcodmoklaaa
