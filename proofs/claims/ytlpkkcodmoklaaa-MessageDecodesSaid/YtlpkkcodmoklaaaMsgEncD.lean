/- The walk of the reference's contents and Encode. -/
import Derived.Test.YtlpkkcodmoklaaaMsgEncB
import Derived.Test.YtlpkkcodmoklaaaHeld
import Derived.Deep.RegionHeld3
namespace Go.Proofs.Ytlpkkcodmoklaaa
set_option linter.unusedVariables false
set_option linter.unusedSimpArgs false
open Go.RowKit
attribute [local go_sem] bs_size bs_get bs_append bs_extract bs_toList
theorem rd_new (w : World) (L : List Int) (T : TypeId) (c g : Nat) (hg : g = w.heap.size) : Rd (w.alloc (.cells (cellsI L).toArray T)) (w.alloc (.cells (cellsI L).toArray T)).heap.size 1 (.slice (some ⟨g, 0, none⟩) L.length c) L.length (cellsI L) := by
  subst hg
  refine ⟨by rw [cellsI_length, Nat.mul_one], _, _, rfl, fun hp => ⟨w.heap.size, 0, rfl, by simp, fun j u hu => ?_⟩⟩
  rw [Nat.zero_add, World.cell?_alloc_at _ _ _ _ rfl]
  simpa using hu
theorem held_last5 {a b c d e f : Prop} (h : a ∧ b ∧ c ∧ d ∧ e ∧ f) : f := h.2.2.2.2.2
theorem held_last4 {a b c d f : Prop} (h : a ∧ b ∧ c ∧ d ∧ f) : f := h.2.2.2.2
theorem rd_newd (w : World) (L : List Int) (T : TypeId) (c g : Nat) (hg : g = w.heap.size) : Rd (w.alloc (.cells (cellsI L).toArray T)).drew (w.alloc (.cells (cellsI L).toArray T)).drew.heap.size 1 (.slice (some ⟨g, 0, none⟩) L.length c) L.length (cellsI L) := rd_new w L T c g hg
set_option maxRecDepth 100000 in
set_option maxHeartbeats 4000000 in
theorem contents_rep (m : Msg) (A : Option Addr) (c : Nat) (A' : Option Addr) (c' : Nat) (w : World) (ok : m.Ok) (h1 : (m.kind == 1) = true) :
    Calls Try.prog 83 #[.agg #[.int .i64 m.kind, .int .i64 m.fro, .int .i64 m.to, .int .i64 m.seq, .int .i64 m.time, .int .i64 m.aseq, .int .i64 m.aend, .slice A m.prof.length c, .slice A' m.links.length c', .int .i64 m.min, .int .i64 m.speed, .int .i64 m.mode, .int .i64 m.acc, .bool m.whole]] w fun e w' => e = .returned (.string (bs (headE m ++ repE m))) ∧ Below w.heap.size w w' := by
  have HI1 := i64_5 ok.kind ok.fro ok.to ok.seq ok.time
  have hn1 := encIs_len5 HI1 (by simp)
  have HI2 := i64_4 ok.min ok.speed ok.mode ok.acc
  have hn2 := encIs_len5 HI2 (by simp)
  have hn3 : (Wire.encB m.whole).length ≤ 1 := by cases m.whole <;> decide
  have q1 : ¬ 9223372036854775807 < (Wire.encIs [m.kind, m.fro, m.to, m.seq, m.time]).length + (Wire.encIs [m.min, m.speed, m.mode, m.acc]).length := by omega
  have q2 : ¬ 9223372036854775807 < (Wire.encIs [m.kind, m.fro, m.to, m.seq, m.time]).length + (Wire.encIs [m.min, m.speed, m.mode, m.acc]).length + (Wire.encB m.whole).length := by omega
  go_enter Try.func83, Try.ntmps83
  go_wp2_with fail
  refine (rints_any [m.kind, m.fro, m.to, m.seq, m.time] _ _ _ HI1 (by simp) (rd_new _ [m.kind, m.fro, m.to, m.seq, m.time] 3 _ _ (by simp))).mono ?_
  rintro e w1 ⟨rfl, hb1⟩
  have hB1 : Below (w.heap.size + 1) (w.alloc (.cells #[.int .i64 m.kind, .int .i64 m.fro, .int .i64 m.to, .int .i64 m.seq, .int .i64 m.time, .int .i64 m.aseq, .int .i64 m.aend, .slice A m.prof.length c, .slice A' m.links.length c', .int .i64 m.min, .int .i64 m.speed, .int .i64 m.mode, .int .i64 m.acc, .bool m.whole] 69)) w1 := (((Below.refl _ _).alloc (by simp) _).trans (hb1.mono (by simp)))
  have hz1 := hB1.size
  rw [World.size_alloc] at hz1
  have b : ∀ o, w1.cell? ⟨w.heap.size, o, none⟩ = (w.alloc (.cells #[.int .i64 m.kind, .int .i64 m.fro, .int .i64 m.to, .int .i64 m.seq, .int .i64 m.time, .int .i64 m.aseq, .int .i64 m.aend, .slice A m.prof.length c, .slice A' m.links.length c', .int .i64 m.min, .int .i64 m.speed, .int .i64 m.mode, .int .i64 m.acc, .bool m.whole] 69)).cell? ⟨w.heap.size, o, none⟩ := fun o => hB1.cell (p := ⟨w.heap.size, o, none⟩) (Nat.lt_succ_self _)
  have S1 : w1.cell? ⟨w.heap.size, 9, none⟩ = some (.int .i64 m.min) ∧ w1.cell? ⟨w.heap.size, 10, none⟩ = some (.int .i64 m.speed) ∧ w1.cell? ⟨w.heap.size, 11, none⟩ = some (.int .i64 m.mode) ∧ w1.cell? ⟨w.heap.size, 12, none⟩ = some (.int .i64 m.acc) ∧ w1.cell? ⟨w.heap.size, 13, none⟩ = some (.bool m.whole) ∧ Below w1.heap.size w1 w1 := by
    refine ⟨?_, ?_, ?_, ?_, ?_, Below.refl _ _⟩
    all_goals (rw [b, World.cell?_alloc_at _ _ _ _ rfl]; rfl)
  have k0 : w1.cell? ⟨w.heap.size, 0, none⟩ = some (.int .i64 m.kind) := by rw [b, World.cell?_alloc_at _ _ _ _ rfl]; rfl
  have hbb : w.heap.size < w1.heap.size := by omega
  have hB : Below w.heap.size w w1 := ((Below.refl _ _).alloc (Nat.le_refl _) _).trans (hB1.mono (by omega))
  clear b hb1 hB1
  go_wp2_with fail
  go_region_held3 (fun w' => w'.cell? ⟨w.heap.size, 9, none⟩ = some (.int .i64 m.min) ∧ w'.cell? ⟨w.heap.size, 10, none⟩ = some (.int .i64 m.speed) ∧ w'.cell? ⟨w.heap.size, 11, none⟩ = some (.int .i64 m.mode) ∧ w'.cell? ⟨w.heap.size, 12, none⟩ = some (.int .i64 m.acc) ∧ w'.cell? ⟨w.heap.size, 13, none⟩ = some (.bool m.whole) ∧ Below w1.heap.size w1 w')
    (first | assumption | exact held5_drew ‹_› | (refine held5_step hbb hbb hbb hbb hbb ?_ ‹_›; assumption) | (refine held5_alloc _ hbb hbb hbb hbb hbb ?_; assumption) | (refine held5_drew (held5_alloc _ hbb hbb hbb hbb hbb ?_); assumption))
    (first
      | (go_at_call 93; refine (rints_any [m.min, m.speed, m.mode, m.acc] _ _ _ HI2 (by simp) (rd_newd _ [m.min, m.speed, m.mode, m.acc] 3 _ _ (by simp))).mono ?_; rintro e wq ⟨rfl, hq⟩)
      | (go_at_call 53; refine (refBool_any _ _).mono ?_; rintro e wq ⟨rfl, rfl⟩))
  all_goals (go_wp2_with fail)
  all_goals go_ret
  all_goals (refine ⟨?_, hB.trans (Below.mono (B := w1.heap.size) ?_ (by omega))⟩)
  any_goals (apply held_last5; assumption)
  all_goals (simp [headE, repE, List.append_assoc])
set_option maxRecDepth 100000 in
set_option maxHeartbeats 4000000 in
theorem contents_rest (m : Msg) (A : Option Addr) (c : Nat) (A' : Option Addr) (c' : Nat) (w : World) (ok : m.Ok) (h1 : (m.kind == 1) = false) (h3 : decide (3 < m.kind) = true) :
    Calls Try.prog 83 #[.agg #[.int .i64 m.kind, .int .i64 m.fro, .int .i64 m.to, .int .i64 m.seq, .int .i64 m.time, .int .i64 m.aseq, .int .i64 m.aend, .slice A m.prof.length c, .slice A' m.links.length c', .int .i64 m.min, .int .i64 m.speed, .int .i64 m.mode, .int .i64 m.acc, .bool m.whole]] w fun e w' => e = .returned (.string (bs (headE m))) ∧ Below w.heap.size w w' := by
  have HI1 := i64_5 ok.kind ok.fro ok.to ok.seq ok.time
  have hn1 := encIs_len5 HI1 (by simp)
  go_enter Try.func83, Try.ntmps83
  go_wp2_with fail
  refine (rints_any [m.kind, m.fro, m.to, m.seq, m.time] _ _ _ HI1 (by simp) (rd_new _ [m.kind, m.fro, m.to, m.seq, m.time] 3 _ _ (by simp))).mono ?_
  rintro e w1 ⟨rfl, hb1⟩
  have hB1 : Below (w.heap.size + 1) (w.alloc (.cells #[.int .i64 m.kind, .int .i64 m.fro, .int .i64 m.to, .int .i64 m.seq, .int .i64 m.time, .int .i64 m.aseq, .int .i64 m.aend, .slice A m.prof.length c, .slice A' m.links.length c', .int .i64 m.min, .int .i64 m.speed, .int .i64 m.mode, .int .i64 m.acc, .bool m.whole] 69)) w1 := (((Below.refl _ _).alloc (by simp) _).trans (hb1.mono (by simp)))
  have hz1 := hB1.size
  rw [World.size_alloc] at hz1
  have b : ∀ o, w1.cell? ⟨w.heap.size, o, none⟩ = (w.alloc (.cells #[.int .i64 m.kind, .int .i64 m.fro, .int .i64 m.to, .int .i64 m.seq, .int .i64 m.time, .int .i64 m.aseq, .int .i64 m.aend, .slice A m.prof.length c, .slice A' m.links.length c', .int .i64 m.min, .int .i64 m.speed, .int .i64 m.mode, .int .i64 m.acc, .bool m.whole] 69)).cell? ⟨w.heap.size, o, none⟩ := fun o => hB1.cell (p := ⟨w.heap.size, o, none⟩) (Nat.lt_succ_self _)
  have k0 : w1.cell? ⟨w.heap.size, 0, none⟩ = some (.int .i64 m.kind) := by rw [b, World.cell?_alloc_at _ _ _ _ rfl]; rfl
  have hB : Below w.heap.size w w1 := ((Below.refl _ _).alloc (Nat.le_refl _) _).trans (hB1.mono (by omega))
  clear b hb1 hB1
  go_wp2_with fail
  go_ret
  exact ⟨rfl, hB⟩
end Go.Proofs.Ytlpkkcodmoklaaa
