/- The walk of the reference's Valid. -/
import Derived.Test.YtlpkkcodmoklaaaMsgWalksD
namespace Go.Proofs.Ytlpkkcodmoklaaa
set_option linter.unusedVariables false
set_option linter.unusedSimpArgs false
open Go.RowKit
attribute [local go_sem high] eq_seg eq_lnk eq_rep
def rValidB (m : Msg) : Bool := headB m && (if m.kind = 2 ∨ m.kind = 3 then grantB m && repEq m.min m.speed m.mode m.acc m.whole 0 0 0 0 false else sameAuthB m Msg.zero && ((repEq m.min m.speed m.mode m.acc m.whole 0 0 0 0 false && !(m.kind == 1)) || (m.kind == 1 && repOkB m)))
theorem rValidB_eq (m : Msg) : rValidB m = validB m := by
  have e1 : repEq m.min m.speed m.mode m.acc m.whole 0 0 0 0 false = (m.min == 0 && m.speed == 0 && m.mode == 0 && m.acc == 0 && !m.whole) := by
    rw [Bool.eq_iff_iff]; simp [repEq, and_assoc]
  have e2 : sameAuthB m Msg.zero = (m.aseq == 0 && m.aend == 0 && m.prof.isEmpty && m.links.isEmpty) := by
    rw [Bool.eq_iff_iff]; unfold sameAuthB; rw [decide_eq_true_iff]; simp [Msg.zero, and_assoc]
  unfold rValidB validB authB repB
  rw [e1, e2]
  by_cases h1 : m.kind = 1
  · simp [h1, carB, repOkB, Bool.and_assoc]
  · by_cases h2 : m.kind = 2
    · simp [h2, carB, Bool.and_assoc]
    · by_cases h3 : m.kind = 3
      · simp [h3, carB, Bool.and_assoc]
      · have h1' : (m.kind == 1) = false := by simp [h1]
        have h2' : (m.kind == 2) = false := by simp [h2]
        have h3' : (m.kind == 3) = false := by simp [h3]
        simp [h1, h2, h3, h1', h2', h3', carB, Bool.and_assoc]
set_option maxRecDepth 100000 in
set_option maxHeartbeats 4000000 in
theorem rValid_any (m : Msg) (A : Option Addr) (c : Nat) (A' : Option Addr) (c' : Nat) (w : World) (hlp : m.prof.length ≤ 9223372036854775807) (hll : m.links.length ≤ 9223372036854775807) (hp : RdS cSeg w w.heap.size A m.prof) (hl : RdS cLnk w w.heap.size A' m.links) :
    Calls Try.prog 60 #[.agg #[.int .i64 m.kind, .int .i64 m.fro, .int .i64 m.to, .int .i64 m.seq, .int .i64 m.time, .int .i64 m.aseq, .int .i64 m.aend, .slice A m.prof.length c, .slice A' m.links.length c', .int .i64 m.min, .int .i64 m.speed, .int .i64 m.mode, .int .i64 m.acc, .bool m.whole]] w fun e w' => e = .returned (.bool (validB m)) ∧ Below w.heap.size w w' := by
  rw [← rValidB_eq]
  go_enter Try.func60, Try.ntmps60
  go_wp2_with (first
    | (go_at_call 75; refine (rin_any _ _ _ _).mono ?_; rintro e w' ⟨rfl, rfl⟩)
    | (go_at_call 76; refine (granted_any m _ _ _ _ _ hlp hll (hp.now (by (repeat' (first | (with_reducible exact Below.refl _ _) | (with_reducible assumption) | (with_reducible refine Below.drewN ?_ _) | (with_reducible refine Below.drew ?_) | (with_reducible refine Below.alloc ?_ ?_ _) | (with_reducible refine Below.setCell ?_ ?_ _) | (with_reducible exact Nat.le_refl _) | (with_reducible exact Below.size (by assumption)) | omega | (simp only [World.size_alloc, World.size_setCell, World.size_drew]; omega) | (simp; done) | (simp; omega))))) (hl.now (by (repeat' (first | (with_reducible exact Below.refl _ _) | (with_reducible assumption) | (with_reducible refine Below.drewN ?_ _) | (with_reducible refine Below.drew ?_) | (with_reducible refine Below.alloc ?_ ?_ _) | (with_reducible refine Below.setCell ?_ ?_ _) | (with_reducible exact Nat.le_refl _) | (with_reducible exact Below.size (by assumption)) | omega | (simp only [World.size_alloc, World.size_setCell, World.size_drew]; omega) | (simp; done) | (simp; omega)))))).mono ?_; rintro e w1 ⟨rfl, hb1⟩; have hB1 := bthru (w := w) hb1 (by (repeat' (first | (with_reducible exact Below.refl _ _) | (with_reducible assumption) | (with_reducible refine Below.drewN ?_ _) | (with_reducible refine Below.drew ?_) | (with_reducible refine Below.alloc ?_ ?_ _) | (with_reducible refine Below.setCell ?_ ?_ _) | (with_reducible exact Nat.le_refl _) | (with_reducible exact Below.size (by assumption)) | omega | (simp only [World.size_alloc, World.size_setCell, World.size_drew]; omega) | (simp; done) | (simp; omega)))); have hc1 := bcell hb1; have hz1 := hB1.size)
    | (go_at_call 77; refine (sameAuth_zero m _ _ _ _ _ hlp hll (hp.now (by (repeat' (first | (with_reducible exact Below.refl _ _) | (with_reducible assumption) | (with_reducible refine Below.drewN ?_ _) | (with_reducible refine Below.drew ?_) | (with_reducible refine Below.alloc ?_ ?_ _) | (with_reducible refine Below.setCell ?_ ?_ _) | (with_reducible exact Nat.le_refl _) | (with_reducible exact Below.size (by assumption)) | omega | (simp only [World.size_alloc, World.size_setCell, World.size_drew]; omega) | (simp; done) | (simp; omega))))) (hl.now (by (repeat' (first | (with_reducible exact Below.refl _ _) | (with_reducible assumption) | (with_reducible refine Below.drewN ?_ _) | (with_reducible refine Below.drew ?_) | (with_reducible refine Below.alloc ?_ ?_ _) | (with_reducible refine Below.setCell ?_ ?_ _) | (with_reducible exact Nat.le_refl _) | (with_reducible exact Below.size (by assumption)) | omega | (simp only [World.size_alloc, World.size_setCell, World.size_drew]; omega) | (simp; done) | (simp; omega)))))).mono ?_; rintro e w1 ⟨rfl, hb1⟩; have hB1 := bthru (w := w) hb1 (by (repeat' (first | (with_reducible exact Below.refl _ _) | (with_reducible assumption) | (with_reducible refine Below.drewN ?_ _) | (with_reducible refine Below.drew ?_) | (with_reducible refine Below.alloc ?_ ?_ _) | (with_reducible refine Below.setCell ?_ ?_ _) | (with_reducible exact Nat.le_refl _) | (with_reducible exact Below.size (by assumption)) | omega | (simp only [World.size_alloc, World.size_setCell, World.size_drew]; omega) | (simp; done) | (simp; omega)))); have hc1 := bcell hb1; have hz1 := hB1.size)
    | (go_at_call 78; refine (reported_any m _).mono ?_; rintro e w2 ⟨rfl, hb2⟩; have hB2 := bthru (w := w) hb2 (by (repeat' (first | (with_reducible exact Below.refl _ _) | (with_reducible assumption) | (with_reducible refine Below.drewN ?_ _) | (with_reducible refine Below.drew ?_) | (with_reducible refine Below.alloc ?_ ?_ _) | (with_reducible refine Below.setCell ?_ ?_ _) | (with_reducible exact Nat.le_refl _) | (with_reducible exact Below.size (by assumption)) | omega | (simp only [World.size_alloc, World.size_setCell, World.size_drew]; omega) | (simp; done) | (simp; omega))))))
  all_goals (go_ret; refine ⟨?_, ?_⟩; (focus (refine ret_b ?_; simp_all [rValidB, headB]; done)); (focus (repeat' (first | (with_reducible exact Below.refl _ _) | (with_reducible assumption) | (with_reducible refine Below.drewN ?_ _) | (with_reducible refine Below.drew ?_) | (with_reducible refine Below.alloc ?_ ?_ _) | (with_reducible refine Below.setCell ?_ ?_ _) | (with_reducible exact Nat.le_refl _) | (with_reducible exact Below.size (by assumption)) | omega | (simp only [World.size_alloc, World.size_setCell, World.size_drew]; omega) | (simp; done) | (simp; omega)))))
end Go.Proofs.Ytlpkkcodmoklaaa
