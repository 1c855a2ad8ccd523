/- The walks of the reference's checks of messages, and of the comparisons. -/
import Derived.Test.YtlpkkcodmoklaaaMsgWalksB
namespace Go.Proofs.Ytlpkkcodmoklaaa
set_option linter.unusedVariables false
set_option linter.unusedSimpArgs false
open Go.RowKit
attribute [local go_sem high] eq_seg eq_lnk eq_rep
theorem cellA {w : World} (o : Obj) {b k : Nat} {v : Value} (h : w.cell? ⟨b, k, none⟩ = some v) (hb : b < w.heap.size) : (w.alloc o).cell? ⟨b, k, none⟩ = some v := (World.cell?_alloc_lt w o ⟨b, k, none⟩ hb).trans h
def fewB (m : Msg) : Bool := decide (m.prof.length ≤ 300) && decide (m.links.length ≤ 300)
def repOkB (m : Msg) : Bool := inB m.min (-1073741824) 1073741824 && inB m.speed 0 1073741824 && inB m.mode 1 7 && inB m.acc 0 1073741824
def sameAuthB (m n : Msg) : Bool := decide (m.aseq = n.aseq ∧ m.aend = n.aend ∧ m.prof = n.prof ∧ m.links = n.links)
def sameM (m n : Msg) : Bool := decide (m.kind = n.kind ∧ m.fro = n.fro ∧ m.to = n.to ∧ m.seq = n.seq ∧ m.time = n.time ∧ m.aseq = n.aseq ∧ m.aend = n.aend ∧ m.prof = n.prof ∧ m.links = n.links ∧ m.min = n.min ∧ m.speed = n.speed ∧ m.mode = n.mode ∧ m.acc = n.acc ∧ m.whole = n.whole)
theorem sameM_iff {m n : Msg} : sameM m n = true ↔ m = n := by
  obtain ⟨⟩ := m
  obtain ⟨⟩ := n
  simp [sameM]
theorem few_any (m : Msg) (A : Option Addr) (c : Nat) (A' : Option Addr) (c' : Nat) (w : World) (hlp : m.prof.length ≤ 9223372036854775807) (hll : m.links.length ≤ 9223372036854775807) :
    Calls Try.prog 57 #[.agg #[.int .i64 m.kind, .int .i64 m.fro, .int .i64 m.to, .int .i64 m.seq, .int .i64 m.time, .int .i64 m.aseq, .int .i64 m.aend, .slice A m.prof.length c, .slice A' m.links.length c', .int .i64 m.min, .int .i64 m.speed, .int .i64 m.mode, .int .i64 m.acc, .bool m.whole]] w fun e w' => e = .returned (.bool (fewB m)) ∧ Below w.heap.size w w' := by
  go_enter Try.func57, Try.ntmps57
  go_wp2_with fail
  all_goals (go_ret; refine ⟨?_, ?_⟩; (focus (refine ret_b ?_; rw [Bool.eq_iff_iff]; simp [fewB]; omega)); (focus (repeat' (first | (with_reducible exact Below.refl _ _) | (with_reducible assumption) | (with_reducible refine Below.drewN ?_ _) | (with_reducible refine Below.drew ?_) | (with_reducible refine Below.alloc ?_ ?_ _) | (with_reducible refine Below.setCell ?_ ?_ _) | (with_reducible exact Nat.le_refl _) | (with_reducible exact Below.size (by assumption)) | omega | (simp only [World.size_alloc, World.size_setCell, World.size_drew]; omega) | (simp; done) | (simp; omega)))))
set_option maxRecDepth 100000 in
theorem reported_any (m : Msg) (w : World) :
    Calls Try.prog 78 #[.agg #[.int .i64 m.min, .int .i64 m.speed, .int .i64 m.mode, .int .i64 m.acc, .bool m.whole]] w fun e w' => e = .returned (.bool (repOkB m)) ∧ Below w.heap.size w w' := by
  go_enter Try.func78, Try.ntmps78
  go_wp2_with (go_at_call 75; refine (rin_any _ _ _ _).mono ?_; rintro e w' ⟨rfl, rfl⟩)
  all_goals (go_ret; refine ⟨?_, ?_⟩; (focus (first | rfl | (refine ret_b ?_; first | rfl | (rw [Bool.eq_iff_iff]; first | (simp [repOkB, and_assoc, *]; done) | (simp_all [repOkB, and_assoc]; done) | (simp_all [repOkB, and_assoc]; omega))))); (focus (repeat' (first | (with_reducible exact Below.refl _ _) | (with_reducible assumption) | (with_reducible refine Below.drewN ?_ _) | (with_reducible refine Below.drew ?_) | (with_reducible refine Below.alloc ?_ ?_ _) | (with_reducible refine Below.setCell ?_ ?_ _) | (with_reducible exact Nat.le_refl _) | (with_reducible exact Below.size (by assumption)) | omega | (simp only [World.size_alloc, World.size_setCell, World.size_drew]; omega) | (simp; done) | (simp; omega)))))
set_option maxRecDepth 100000 in
set_option maxHeartbeats 2000000 in
theorem granted_any (m : Msg) (A : Option Addr) (c : Nat) (A' : Option Addr) (c' : Nat) (w : World) (hlp : m.prof.length ≤ 9223372036854775807) (hll : m.links.length ≤ 9223372036854775807) (hp : RdS cSeg w w.heap.size A m.prof) (hl : RdS cLnk w w.heap.size A' m.links) :
    Calls Try.prog 76 #[.agg #[.int .i64 m.aseq, .int .i64 m.aend, .slice A m.prof.length c, .slice A' m.links.length c']] w fun e w' => e = .returned (.bool (grantB m)) ∧ Below w.heap.size w w' := by
  go_enter Try.func76, Try.ntmps76
  go_wp2_with fail
  go_loopw [8] (fun i wr => ∃ k : Nat, k ≤ m.links.length ∧ i = .int .i64 k ∧ (m.links.take k).all lnkB = true ∧ Below w.heap.size w wr ∧ w.heap.size < wr.heap.size ∧ wr.cell? ⟨w.heap.size, 0, none⟩ = some (.int .i64 m.aseq) ∧ wr.cell? ⟨w.heap.size, 1, none⟩ = some (.int .i64 m.aend) ∧ wr.cell? ⟨w.heap.size, 2, none⟩ = some (.slice A m.prof.length c) ∧ wr.cell? ⟨w.heap.size, 3, none⟩ = some (.slice A' m.links.length c')) (fun i _ => (m.links.length - intOf i).toNat)
  case atStart => exact ⟨0, by omega, rfl, rfl, by (repeat' (first | (with_reducible exact Below.refl _ _) | (with_reducible assumption) | (with_reducible refine Below.drewN ?_ _) | (with_reducible refine Below.drew ?_) | (with_reducible refine Below.alloc ?_ ?_ _) | (with_reducible refine Below.setCell ?_ ?_ _) | (with_reducible exact Nat.le_refl _) | (with_reducible exact Below.size (by assumption)) | omega | (simp only [World.size_alloc, World.size_setCell, World.size_drew]; omega) | (simp; done) | (simp; omega))), by simp, by rw [World.cell?_alloc_at _ _ _ _ rfl]; rfl, by rw [World.cell?_alloc_at _ _ _ _ rfl]; rfl, by rw [World.cell?_alloc_at _ _ _ _ rfl]; rfl, by rw [World.cell?_alloc_at _ _ _ _ rfl]; rfl⟩
  case round =>
    obtain ⟨k, hk, rfl, htk, hbr, hz, b0, b1, b2, b3⟩ := hrel
    have HK := Lib.hid htk
    clear htk
    by_cases hlt : k < m.links.length
    · obtain ⟨p, off, rfl, hp1, _, x1, x2⟩ := lnk_at (hl.below hbr) hlt
      have HS := Lib.hid (linksB_take hlt)
      have HN := Lib.hid (fun h => linksB_false hlt h)
      clear hl
      generalize m.links[k] = x at x1 x2 HS HN
      obtain ⟨p1, p2⟩ := x
      go_wp2_with (go_at_call 75; refine (rin_any _ _ _ _).mono ?_; rintro e w' ⟨rfl, rfl⟩)
      all_goals first
        | (have hno : lnkB (p1, p2) = false := by (simp [lnkB]; simp_all)
           go_ret
           refine ⟨?_, ?_⟩
           · simp only [grantB, HN.out hno, Bool.and_false]; rfl
           · (repeat' (first | (with_reducible exact Below.refl _ _) | (with_reducible assumption) | (with_reducible refine Below.drewN ?_ _) | (with_reducible refine Below.drew ?_) | (with_reducible refine Below.alloc ?_ ?_ _) | (with_reducible refine Below.setCell ?_ ?_ _) | (with_reducible exact Nat.le_refl _) | (with_reducible exact Below.size (by assumption)) | omega | (simp only [World.size_alloc, World.size_setCell, World.size_drew]; omega) | (simp; done) | (simp; omega))))
        | (go_roundw
           case rel => exact ⟨k + 1, by omega, by go_num, by rw [HS.out, HK.out]; simp [lnkB]; simp_all, by (repeat' (first | (with_reducible exact Below.refl _ _) | (with_reducible assumption) | (with_reducible refine Below.drewN ?_ _) | (with_reducible refine Below.drew ?_) | (with_reducible refine Below.alloc ?_ ?_ _) | (with_reducible refine Below.setCell ?_ ?_ _) | (with_reducible exact Nat.le_refl _) | (with_reducible exact Below.size (by assumption)) | omega | (simp only [World.size_alloc, World.size_setCell, World.size_drew]; omega) | (simp; done) | (simp; omega))), by simp; omega, cellA _ b0 (by omega), cellA _ b1 (by omega), cellA _ b2 (by omega), cellA _ b3 (by omega)⟩
           case measure => simp [intOf] <;> omega)
    · have HE := Lib.hid (lnkAll_end hlt HK.out)
      go_wp2_with (first
        | (go_at_call 75; refine (rin_any _ _ _ _).mono ?_; rintro e w' ⟨rfl, rfl⟩)
        | (go_at_call 90; refine (rValid10_any _ _ _ _ hlp (hp.now (by (repeat' (first | (with_reducible exact Below.refl _ _) | (with_reducible assumption) | (with_reducible refine Below.drewN ?_ _) | (with_reducible refine Below.drew ?_) | (with_reducible refine Below.alloc ?_ ?_ _) | (with_reducible refine Below.setCell ?_ ?_ _) | (with_reducible exact Nat.le_refl _) | (with_reducible exact Below.size (by assumption)) | omega | (simp only [World.size_alloc, World.size_setCell, World.size_drew]; omega) | (simp; done) | (simp; omega)))))).mono ?_; rintro e w1 ⟨rfl, hb1⟩; have hB1 := bthru (w := w) hb1 (by (repeat' (first | (with_reducible exact Below.refl _ _) | (with_reducible assumption) | (with_reducible refine Below.drewN ?_ _) | (with_reducible refine Below.drew ?_) | (with_reducible refine Below.alloc ?_ ?_ _) | (with_reducible refine Below.setCell ?_ ?_ _) | (with_reducible exact Nat.le_refl _) | (with_reducible exact Below.size (by assumption)) | omega | (simp only [World.size_alloc, World.size_setCell, World.size_drew]; omega) | (simp; done) | (simp; omega)))); have hc1 := bcell hb1; have hz1 := hB1.size))
      all_goals (go_ret; refine ⟨?_, ?_⟩; (focus (refine ret_b ?_; have he := HE.out; rw [Bool.eq_iff_iff]; simp [grantB, he]; simp_all; try omega)); (focus (repeat' (first | (with_reducible exact Below.refl _ _) | (with_reducible assumption) | (with_reducible refine Below.drewN ?_ _) | (with_reducible refine Below.drew ?_) | (with_reducible refine Below.alloc ?_ ?_ _) | (with_reducible refine Below.setCell ?_ ?_ _) | (with_reducible exact Nat.le_refl _) | (with_reducible exact Below.size (by assumption)) | omega | (simp only [World.size_alloc, World.size_setCell, World.size_drew]; omega) | (simp; done) | (simp; omega)))))
end Go.Proofs.Ytlpkkcodmoklaaa
