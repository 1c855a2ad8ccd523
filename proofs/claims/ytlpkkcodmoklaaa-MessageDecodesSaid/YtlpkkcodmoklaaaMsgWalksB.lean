/- The walks of the program's checks of messages. -/
import Derived.Test.YtlpkkcodmoklaaaMsgWalksA
namespace Go.Proofs.Ytlpkkcodmoklaaa
set_option linter.unusedVariables false
set_option linter.unusedSimpArgs false
open Go.RowKit
attribute [local go_sem high] eq_seg eq_lnk eq_rep
theorem ret_b {a b : Bool} (h : a = b) : Ending.returned (.bool a) = .returned (.bool b) := by rw [h]
theorem bthru {w W w1 : World} (hb : Below W.heap.size W w1) (h : Below w.heap.size w W) : Below w.heap.size w w1 := h.trans (hb.mono h.size)
theorem lnkAll_end {l : List Lnk} {k : Nat} (hk : ¬ k < l.length) (h : (l.take k).all lnkB = true) : linksB l = true := by
  rw [List.take_of_length_le (by omega)] at h
  exact h
set_option maxRecDepth 100000 in
theorem validReport_any (m : Msg) (A : Option Addr) (c : Nat) (A' : Option Addr) (c' : Nat) (w : World) :
    Calls Try.prog 74 #[.agg #[.int .i64 m.kind, .int .i64 m.fro, .int .i64 m.to, .int .i64 m.seq, .int .i64 m.time, .int .i64 m.aseq, .int .i64 m.aend, .slice A m.prof.length c, .slice A' m.links.length c', .int .i64 m.min, .int .i64 m.speed, .int .i64 m.mode, .int .i64 m.acc, .bool m.whole]] w fun e w' => e = .returned (.bool (repB m)) ∧ Below w.heap.size w w' := by
  go_enter Try.func74, Try.ntmps74
  go_wp2_with (go_at_call 72; refine (within_any _ _ _ _).mono ?_; rintro e w' ⟨rfl, rfl⟩)
  all_goals (go_ret; refine ⟨?_, ?_⟩; (focus (first | rfl | (refine ret_b ?_; first | rfl | (rw [Bool.eq_iff_iff]; first | (simp [repB, repEq, and_assoc, *]; done) | (simp_all [repB, repEq, and_assoc]; done) | (simp_all [repB, repEq, and_assoc]; omega))))); (focus (repeat' (first | (with_reducible exact Below.refl _ _) | (with_reducible assumption) | (with_reducible refine Below.drewN ?_ _) | (with_reducible refine Below.drew ?_) | (with_reducible refine Below.alloc ?_ ?_ _) | (with_reducible refine Below.setCell ?_ ?_ _) | (with_reducible exact Nat.le_refl _) | (with_reducible exact Below.size (by assumption)) | omega | (simp only [World.size_alloc, World.size_setCell, World.size_drew]; omega) | (simp; done) | (simp; omega)))))
set_option maxRecDepth 100000 in
set_option maxHeartbeats 2000000 in
theorem validAuth_any (m : Msg) (A : Option Addr) (c : Nat) (A' : Option Addr) (c' : Nat) (w : World) (hlp : m.prof.length ≤ 9223372036854775807) (hll : m.links.length ≤ 9223372036854775807) (hp : RdS cSeg w w.heap.size A m.prof) (hl : RdS cLnk w w.heap.size A' m.links) :
    Calls Try.prog 73 #[.agg #[.int .i64 m.kind, .int .i64 m.fro, .int .i64 m.to, .int .i64 m.seq, .int .i64 m.time, .int .i64 m.aseq, .int .i64 m.aend, .slice A m.prof.length c, .slice A' m.links.length c', .int .i64 m.min, .int .i64 m.speed, .int .i64 m.mode, .int .i64 m.acc, .bool m.whole]] w fun e w' => e = .returned (.bool (authB m)) ∧ Below w.heap.size w w' := by
  go_enter Try.func73, Try.ntmps73
  go_wp2_with (first
    | (go_at_call 81; refine (carries_any _ _).mono ?_; rintro e w' ⟨rfl, rfl⟩)
    | (go_at_call 72; refine (within_any _ _ _ _).mono ?_; rintro e w' ⟨rfl, rfl⟩)
    | (go_at_call 89; refine (valid10_any _ _ _ _ hlp (hp.now (by (repeat' (first | (with_reducible exact Below.refl _ _) | (with_reducible assumption) | (with_reducible refine Below.drewN ?_ _) | (with_reducible refine Below.drew ?_) | (with_reducible refine Below.alloc ?_ ?_ _) | (with_reducible refine Below.setCell ?_ ?_ _) | (with_reducible exact Nat.le_refl _) | (with_reducible exact Below.size (by assumption)) | omega | (simp only [World.size_alloc, World.size_setCell, World.size_drew]; omega) | (simp; done) | (simp; omega)))))).mono ?_; rintro e w1 ⟨rfl, hb1⟩; have hB1 := bthru (w := w) hb1 (by (repeat' (first | (with_reducible exact Below.refl _ _) | (with_reducible assumption) | (with_reducible refine Below.drewN ?_ _) | (with_reducible refine Below.drew ?_) | (with_reducible refine Below.alloc ?_ ?_ _) | (with_reducible refine Below.setCell ?_ ?_ _) | (with_reducible exact Nat.le_refl _) | (with_reducible exact Below.size (by assumption)) | omega | (simp only [World.size_alloc, World.size_setCell, World.size_drew]; omega) | (simp; done) | (simp; omega)))); have hc1 := bcell hb1; have hz1 := hB1.size))
  all_goals try (go_ret; refine ⟨?_, ?_⟩; (focus (first | rfl | (refine ret_b ?_; first | rfl | (rw [Bool.eq_iff_iff]; first | (simp [authB, grantB, and_assoc, *]; done) | (simp_all [authB, grantB, and_assoc]; done) | (simp_all [authB, grantB, and_assoc]; omega))))); (focus (repeat' (first | (with_reducible exact Below.refl _ _) | (with_reducible assumption) | (with_reducible refine Below.drewN ?_ _) | (with_reducible refine Below.drew ?_) | (with_reducible refine Below.alloc ?_ ?_ _) | (with_reducible refine Below.setCell ?_ ?_ _) | (with_reducible exact Nat.le_refl _) | (with_reducible exact Below.size (by assumption)) | omega | (simp only [World.size_alloc, World.size_setCell, World.size_drew]; omega) | (simp; done) | (simp; omega)))))
  have h24 : ¬ 24 < m.links.length := by omega
  have hg : authB m = linksB m.links := by
    rw [Bool.eq_iff_iff]
    simp_all [authB, grantB]
  have HG := Lib.hid hg
  clear hg
  have hl1 := hl.below hB1
  go_loopw [55] (fun i wr => ∃ k : Nat, k ≤ m.links.length ∧ i = .int .i64 k ∧ (m.links.take k).all lnkB = true ∧ Below w.heap.size w wr) (fun i _ => (m.links.length - intOf i).toNat)
  case atStart => exact ⟨0, by omega, rfl, rfl, hB1⟩
  case round =>
    obtain ⟨k, hk, rfl, htk, hbr⟩ := hrel
    have HK := Lib.hid htk
    clear htk
    have hz := hbr.size
    by_cases hlt : k < m.links.length
    · obtain ⟨p, off, rfl, hp1, _, x1, x2⟩ := lnk_at (hl.below hbr) hlt
      have HS := Lib.hid (linksB_take hlt)
      have HN := Lib.hid (fun h => linksB_false hlt h)
      clear hl hl1
      generalize m.links[k] = x at x1 x2 HS HN
      obtain ⟨p1, p2⟩ := x
      go_wp2_with (go_at_call 72; refine (within_any _ _ _ _).mono ?_; rintro e w' ⟨rfl, rfl⟩)
      all_goals first
        | (have hno : lnkB (p1, p2) = false := by (simp [lnkB]; simp_all)
           go_ret
           refine ⟨?_, ?_⟩
           · rw [HG.out, HN.out hno]; rfl
           · (repeat' (first | (with_reducible exact Below.refl _ _) | (with_reducible assumption) | (with_reducible refine Below.drewN ?_ _) | (with_reducible refine Below.drew ?_) | (with_reducible refine Below.alloc ?_ ?_ _) | (with_reducible refine Below.setCell ?_ ?_ _) | (with_reducible exact Nat.le_refl _) | (with_reducible exact Below.size (by assumption)) | omega | (simp only [World.size_alloc, World.size_setCell, World.size_drew]; omega) | (simp; done) | (simp; omega))))
        | (go_roundw
           case rel => exact ⟨k + 1, by omega, by go_num, by rw [HS.out, HK.out]; simp [lnkB]; simp_all, by (repeat' (first | (with_reducible exact Below.refl _ _) | (with_reducible assumption) | (with_reducible refine Below.drewN ?_ _) | (with_reducible refine Below.drew ?_) | (with_reducible refine Below.alloc ?_ ?_ _) | (with_reducible refine Below.setCell ?_ ?_ _) | (with_reducible exact Nat.le_refl _) | (with_reducible exact Below.size (by assumption)) | omega | (simp only [World.size_alloc, World.size_setCell, World.size_drew]; omega) | (simp; done) | (simp; omega)))⟩
           case measure => simp [intOf] <;> omega)
    · have HE := Lib.hid (lnkAll_end hlt HK.out)
      go_wp2_with fail
      go_ret
      exact ⟨by rw [HG.out, HE.out]; rfl, hbr⟩
set_option maxRecDepth 100000 in
set_option maxHeartbeats 2000000 in
theorem valid_any (m : Msg) (A : Option Addr) (c : Nat) (A' : Option Addr) (c' : Nat) (w : World) (hlp : m.prof.length ≤ 9223372036854775807) (hll : m.links.length ≤ 9223372036854775807) (hp : RdS cSeg w w.heap.size A m.prof) (hl : RdS cLnk w w.heap.size A' m.links) :
    Calls Try.prog 59 #[.agg #[.int .i64 m.kind, .int .i64 m.fro, .int .i64 m.to, .int .i64 m.seq, .int .i64 m.time, .int .i64 m.aseq, .int .i64 m.aend, .slice A m.prof.length c, .slice A' m.links.length c', .int .i64 m.min, .int .i64 m.speed, .int .i64 m.mode, .int .i64 m.acc, .bool m.whole]] w fun e w' => e = .returned (.bool (validB m)) ∧ Below w.heap.size w w' := by
  go_enter Try.func59, Try.ntmps59
  go_wp2_with (first
    | (go_at_call 72; refine (within_any _ _ _ _).mono ?_; rintro e w' ⟨rfl, rfl⟩)
    | (go_at_call 73; refine (validAuth_any m _ _ _ _ _ hlp hll (hp.now (by (repeat' (first | (with_reducible exact Below.refl _ _) | (with_reducible assumption) | (with_reducible refine Below.drewN ?_ _) | (with_reducible refine Below.drew ?_) | (with_reducible refine Below.alloc ?_ ?_ _) | (with_reducible refine Below.setCell ?_ ?_ _) | (with_reducible exact Nat.le_refl _) | (with_reducible exact Below.size (by assumption)) | omega | (simp only [World.size_alloc, World.size_setCell, World.size_drew]; omega) | (simp; done) | (simp; omega))))) (hl.now (by (repeat' (first | (with_reducible exact Below.refl _ _) | (with_reducible assumption) | (with_reducible refine Below.drewN ?_ _) | (with_reducible refine Below.drew ?_) | (with_reducible refine Below.alloc ?_ ?_ _) | (with_reducible refine Below.setCell ?_ ?_ _) | (with_reducible exact Nat.le_refl _) | (with_reducible exact Below.size (by assumption)) | omega | (simp only [World.size_alloc, World.size_setCell, World.size_drew]; omega) | (simp; done) | (simp; omega)))))).mono ?_; rintro e w1 ⟨rfl, hb1⟩; have hB1 := bthru (w := w) hb1 (by (repeat' (first | (with_reducible exact Below.refl _ _) | (with_reducible assumption) | (with_reducible refine Below.drewN ?_ _) | (with_reducible refine Below.drew ?_) | (with_reducible refine Below.alloc ?_ ?_ _) | (with_reducible refine Below.setCell ?_ ?_ _) | (with_reducible exact Nat.le_refl _) | (with_reducible exact Below.size (by assumption)) | omega | (simp only [World.size_alloc, World.size_setCell, World.size_drew]; omega) | (simp; done) | (simp; omega)))); have hc1 := bcell hb1; have hz1 := hB1.size)
    | (go_at_call 74; refine (validReport_any m _ _ _ _ _).mono ?_; rintro e w2 ⟨rfl, hb2⟩; have hB2 := bthru (w := w) hb2 (by (repeat' (first | (with_reducible exact Below.refl _ _) | (with_reducible assumption) | (with_reducible refine Below.drewN ?_ _) | (with_reducible refine Below.drew ?_) | (with_reducible refine Below.alloc ?_ ?_ _) | (with_reducible refine Below.setCell ?_ ?_ _) | (with_reducible exact Nat.le_refl _) | (with_reducible exact Below.size (by assumption)) | omega | (simp only [World.size_alloc, World.size_setCell, World.size_drew]; omega) | (simp; done) | (simp; omega))))))
  all_goals (go_ret; refine ⟨?_, ?_⟩; (focus (first | rfl | (refine ret_b ?_; first | rfl | (rw [Bool.eq_iff_iff]; first | (simp [validB, headB, and_assoc, *]; done) | (simp_all [validB, headB, and_assoc]; done) | (simp_all [validB, headB, and_assoc]; omega))))); (focus (repeat' (first | (with_reducible exact Below.refl _ _) | (with_reducible assumption) | (with_reducible refine Below.drewN ?_ _) | (with_reducible refine Below.drew ?_) | (with_reducible refine Below.alloc ?_ ?_ _) | (with_reducible refine Below.setCell ?_ ?_ _) | (with_reducible exact Nat.le_refl _) | (with_reducible exact Below.size (by assumption)) | omega | (simp only [World.size_alloc, World.size_setCell, World.size_drew]; omega) | (simp; done) | (simp; omega)))))
end Go.Proofs.Ytlpkkcodmoklaaa
