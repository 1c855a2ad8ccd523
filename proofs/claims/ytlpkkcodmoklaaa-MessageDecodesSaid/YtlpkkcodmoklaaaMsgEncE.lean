/- The walk of the reference's contents of messages with an authority. -/
import Derived.Test.YtlpkkcodmoklaaaMsgEncD
import Derived.IntWalk
namespace Go.Proofs.Ytlpkkcodmoklaaa
set_option linter.unusedVariables false
set_option linter.unusedSimpArgs false
open Go.RowKit
attribute [local go_sem] bs_size bs_get bs_append bs_extract bs_toList
theorem rdn2 (w : World) (a b : Int) (T : TypeId) (k g : Nat) (hg : g = w.heap.size) : Rd (w.alloc (.cells #[.int .i64 a, .int .i64 b] T)) (w.alloc (.cells #[.int .i64 a, .int .i64 b] T)).heap.size 1 (.slice (some ⟨g, 0, none⟩) 2 k) 2 (cellsI [a, b]) := rd_new w [a, b] T k g hg
theorem rdn2d (w : World) (a b : Int) (T : TypeId) (k g : Nat) (hg : g = w.heap.size) : Rd (w.alloc (.cells #[.int .i64 a, .int .i64 b] T)).drew (w.alloc (.cells #[.int .i64 a, .int .i64 b] T)).drew.heap.size 1 (.slice (some ⟨g, 0, none⟩) 2 k) 2 (cellsI [a, b]) := rd_new w [a, b] T k g hg
theorem rints_2 (a b : Int) (A : Option Addr) (k : Nat) (w : World) (hI : I64 [a, b]) (hr : Rd w w.heap.size 1 (.slice A 2 k) 2 (cellsI [a, b])) : Calls Try.prog 93 #[.slice A 2 k] w fun e w' => e = .returned (.string (bs (Wire.encIs [a, b]))) ∧ Below w.heap.size w w' := rints_any [a, b] A k w hI (by simp) hr
theorem rdn4 (w : World) (a b c d : Int) (T : TypeId) (k g : Nat) (hg : g = w.heap.size) : Rd (w.alloc (.cells #[.int .i64 a, .int .i64 b, .int .i64 c, .int .i64 d] T)) (w.alloc (.cells #[.int .i64 a, .int .i64 b, .int .i64 c, .int .i64 d] T)).heap.size 1 (.slice (some ⟨g, 0, none⟩) 4 k) 4 (cellsI [a, b, c, d]) := rd_new w [a, b, c, d] T k g hg
theorem rdn4d (w : World) (a b c d : Int) (T : TypeId) (k g : Nat) (hg : g = w.heap.size) : Rd (w.alloc (.cells #[.int .i64 a, .int .i64 b, .int .i64 c, .int .i64 d] T)).drew (w.alloc (.cells #[.int .i64 a, .int .i64 b, .int .i64 c, .int .i64 d] T)).drew.heap.size 1 (.slice (some ⟨g, 0, none⟩) 4 k) 4 (cellsI [a, b, c, d]) := rd_new w [a, b, c, d] T k g hg
theorem rints_4 (a b c d : Int) (A : Option Addr) (k : Nat) (w : World) (hI : I64 [a, b, c, d]) (hr : Rd w w.heap.size 1 (.slice A 4 k) 4 (cellsI [a, b, c, d])) : Calls Try.prog 93 #[.slice A 4 k] w fun e w' => e = .returned (.string (bs (Wire.encIs [a, b, c, d]))) ∧ Below w.heap.size w w' := rints_any [a, b, c, d] A k w hI (by simp) hr
set_option maxRecDepth 100000 in
set_option maxHeartbeats 4000000 in
theorem contents_auth (m : Msg) (A : Option Addr) (c : Nat) (A' : Option Addr) (c' : Nat) (w : World) (ok : m.Ok) (hp : RdS cSeg w w.heap.size A m.prof) (hl : RdS cLnk w w.heap.size A' m.links) (h1 : (m.kind == 1) = false) (h3 : decide (3 < m.kind) = false) (hm : m.prof.length ≤ 300 ∧ m.links.length ≤ 300) :
    Calls Try.prog 83 #[.agg #[.int .i64 m.kind, .int .i64 m.fro, .int .i64 m.to, .int .i64 m.seq, .int .i64 m.time, .int .i64 m.aseq, .int .i64 m.aend, .slice A m.prof.length c, .slice A' m.links.length c', .int .i64 m.min, .int .i64 m.speed, .int .i64 m.mode, .int .i64 m.acc, .bool m.whole]] w fun e w' => e = .returned (.string (bs (headE m ++ authE m))) ∧ Below w.heap.size w w' := by
  have HI1 := i64_5 ok.kind ok.fro ok.to ok.seq ok.time
  have hn1 := encIs_len5 HI1 (by simp)
  have HI2 := i64_2 ok.aseq ok.aend
  have hn2 := encIs_len5 HI2 (by simp)
  have hn3 := Wire.enc_length m.prof.length (by omega)
  have hn4 := Wire.enc_length m.links.length (by omega)
  have q1 : ¬ 9223372036854775807 < (Wire.encIs [m.aseq, m.aend]).length + (Wire.enc m.prof.length).length := by omega
  have q2 : ¬ 9223372036854775807 < (Wire.encIs [m.kind, m.fro, m.to, m.seq, m.time]).length + ((Wire.encIs [m.aseq, m.aend]).length + (Wire.enc m.prof.length).length) := by omega
  have hwr : IntKind.u64.wrap (m.prof.length : Int) = (m.prof.length : Int) := IntWalk.u64_in _ (by omega)
  go_enter Try.func83, Try.ntmps83
  go_wp2_with fail
  refine (rints_any [m.kind, m.fro, m.to, m.seq, m.time] _ _ _ HI1 (by simp) (rd_new _ [m.kind, m.fro, m.to, m.seq, m.time] 3 _ _ (by simp))).mono ?_
  rintro e w1 ⟨rfl, hb1⟩
  have hB1 : Below (w.heap.size + 1) (w.alloc (.cells #[.int .i64 m.kind, .int .i64 m.fro, .int .i64 m.to, .int .i64 m.seq, .int .i64 m.time, .int .i64 m.aseq, .int .i64 m.aend, .slice A m.prof.length c, .slice A' m.links.length c', .int .i64 m.min, .int .i64 m.speed, .int .i64 m.mode, .int .i64 m.acc, .bool m.whole] 69)) w1 := (((Below.refl _ _).alloc (by simp) _).trans (hb1.mono (by simp)))
  have hz1 := hB1.size
  rw [World.size_alloc] at hz1
  have b : ∀ o, w1.cell? ⟨w.heap.size, o, none⟩ = (w.alloc (.cells #[.int .i64 m.kind, .int .i64 m.fro, .int .i64 m.to, .int .i64 m.seq, .int .i64 m.time, .int .i64 m.aseq, .int .i64 m.aend, .slice A m.prof.length c, .slice A' m.links.length c', .int .i64 m.min, .int .i64 m.speed, .int .i64 m.mode, .int .i64 m.acc, .bool m.whole] 69)).cell? ⟨w.heap.size, o, none⟩ := fun o => hB1.cell (p := ⟨w.heap.size, o, none⟩) (Nat.lt_succ_self _)
  have S1 : w1.cell? ⟨w.heap.size, 5, none⟩ = some (.int .i64 m.aseq) ∧ w1.cell? ⟨w.heap.size, 6, none⟩ = some (.int .i64 m.aend) ∧ w1.cell? ⟨w.heap.size, 7, none⟩ = some (.slice A m.prof.length c) ∧ w1.cell? ⟨w.heap.size, 8, none⟩ = some (.slice A' m.links.length c') ∧ Below w1.heap.size w1 w1 := by
    refine ⟨?_, ?_, ?_, ?_, Below.refl _ _⟩
    all_goals (rw [b, World.cell?_alloc_at _ _ _ _ rfl]; rfl)
  have k0 : w1.cell? ⟨w.heap.size, 0, none⟩ = some (.int .i64 m.kind) := by rw [b, World.cell?_alloc_at _ _ _ _ rfl]; rfl
  have hbb : w.heap.size < w1.heap.size := by omega
  have hB : Below w.heap.size w w1 := ((Below.refl _ _).alloc (Nat.le_refl _) _).trans (hB1.mono (by omega))
  clear b hb1 hB1
  have hp1 := (hp.below hB).more (Nat.le_of_lt hbb)
  have hl1 := (hl.below hB).more (Nat.le_of_lt hbb)
  have hok := hp1.oks
  have hol := hl1.oks
  have HFL := Lib.hid (fun k hk => flat_take_len segE m.prof k hk (fun i hi => segE_len (hok i hi)))
  have HGL := Lib.hid (fun k hk => flat_take_len lnkE m.links k hk (fun i hi => lnkE_len (hol i hi)))
  have HP1 := Lib.hid hp1
  have HL1 := Lib.hid hl1
  clear hok hol hp hl hp1 hl1
  go_wp2_with fail
  go_region_held3 (fun w' => w'.cell? ⟨w.heap.size, 5, none⟩ = some (.int .i64 m.aseq) ∧ w'.cell? ⟨w.heap.size, 6, none⟩ = some (.int .i64 m.aend) ∧ w'.cell? ⟨w.heap.size, 7, none⟩ = some (.slice A m.prof.length c) ∧ w'.cell? ⟨w.heap.size, 8, none⟩ = some (.slice A' m.links.length c') ∧ Below w1.heap.size w1 w')
    (first | assumption | exact held4_drew ‹_› | (refine held4_step hbb hbb hbb hbb ?_ ‹_›; assumption) | (refine held4_alloc _ hbb hbb hbb hbb ?_; assumption) | (refine held4_drew (held4_alloc _ hbb hbb hbb hbb ?_); assumption))
    (first
      | (go_at_call 93; (with_reducible refine (rints_2 m.aseq m.aend _ _ _ HI2 (rdn2 _ _ _ _ _ _ (by simp))).mono ?_); rintro e wq ⟨rfl, hq⟩)
      | (go_at_call 93; (with_reducible refine (rints_2 m.aseq m.aend _ _ _ HI2 (rdn2d _ _ _ _ _ _ (by simp))).mono ?_); rintro e wq ⟨rfl, hq⟩)
      | (go_at_call 50; (with_reducible refine (refUint_any m.prof.length _ (by omega)).mono ?_); rintro e wq ⟨rfl, hq⟩))
  have SS : wq.cell? ⟨w.heap.size, 5, none⟩ = some (.int .i64 m.aseq) ∧ wq.cell? ⟨w.heap.size, 6, none⟩ = some (.int .i64 m.aend) ∧ wq.cell? ⟨w.heap.size, 7, none⟩ = some (.slice A m.prof.length c) ∧ wq.cell? ⟨w.heap.size, 8, none⟩ = some (.slice A' m.links.length c') ∧ Below w1.heap.size w1 wq := by assumption
  have hBq := SS.2.2.2.2
  have b7 := SS.2.2.1
  have hzq := hBq.size
  clear SS
  generalize hpre : Wire.encIs [m.kind, m.fro, m.to, m.seq, m.time] ++ (Wire.encIs [m.aseq, m.aend] ++ Wire.enc m.prof.length) = pre
  have hpl : pre.length ≤ 300 := by rw [← hpre, List.length_append, List.length_append]; omega
  have HPRE := Lib.hid hpre
  clear hpre q1 q2 hwr
  go_wp2_with fail
  go_loopw [3, 69] (fun s i wr => ∃ k : Nat, k ≤ m.prof.length ∧ i = .int .i64 k ∧ s = .string (bs (pre ++ (m.prof.take k).flatMap segE)) ∧ Below w1.heap.size w1 wr) (fun _ i _ => (m.prof.length - intOf i).toNat)
  case atStart => exact ⟨0, by omega, rfl, by simp, hBq⟩
  case round =>
    obtain ⟨k, hk, rfl, rfl, hbr⟩ := hrel
    have hz := hbr.size
    by_cases hlt : k < m.prof.length
    · obtain ⟨p, off, rfl, hpb, hok, x1, x2, x3, x4⟩ := seg_at (HP1.out.below hbr) hlt
      have HT := Lib.hid (flat_take segE m.prof k hlt)
      have hfl := HFL.out k hk
      generalize m.prof[k] = x at x1 x2 x3 x4 HT hok
      generalize (m.prof.take k).flatMap segE = done at hfl HT ⊢
      obtain ⟨p1, p2, p3, p4⟩ := x
      have HI4 := i64_4 hok.1 hok.2.1 hok.2.2.1 hok.2.2.2
      have hxl : (segE (p1, p2, p3, p4)).length ≤ 100 := segE_len hok
      go_wp2_with fail
      refine (rints_4 p1 p2 p3 p4 _ _ _ HI4 (rdn4 _ _ _ _ _ _ _ _ (by simp))).mono ?_
      rintro e w6 ⟨rfl, hb6⟩
      change (Wire.encIs [p1, p2, p3, p4]).length ≤ 100 at hxl
      go_wp2_with fail
      go_roundw
      case rel => exact ⟨k + 1, by omega, by go_num, by rw [HT.out]; simp [segE, List.append_assoc], ((hbr.alloc hz _).alloc (by simp; omega) _).trans (hb6.mono (by simp; omega))⟩
      case measure => simp [intOf] <;> omega
    · have hta : m.prof.take k = m.prof := List.take_of_length_le (by omega)
      rw [hta]
      have hfl := HFL.out m.prof.length (Nat.le_refl _)
      rw [List.take_length] at hfl
      generalize hd : m.prof.flatMap segE = done at hfl ⊢
      have HD := Lib.hid hd
      clear hd b7
      have b8 : wr.cell? ⟨w.heap.size, 8, none⟩ = some (.slice A' m.links.length c') := (hbr.cell (p := ⟨w.heap.size, 8, none⟩) hbb).trans S1.2.2.2.1
      go_wp2_with fail
      refine (refUint_any m.links.length _ (by omega)).mono ?_
      rintro e w6 ⟨rfl, hb6⟩
      have hB6 := hbr.trans (hb6.mono (by omega))
      have b9 : w6.cell? ⟨w.heap.size, 8, none⟩ = some (.slice A' m.links.length c') := (hB6.cell (p := ⟨w.heap.size, 8, none⟩) hbb).trans S1.2.2.2.1
      have hz6 := hB6.size
      clear b8 hb6
      go_wp2_with fail
      generalize hpre2 : pre ++ (done ++ Wire.enc m.links.length) = pre2
      have hpl2 : pre2.length ≤ 40000 := by rw [← hpre2]; simp only [List.length_append]; omega
      have HPRE2 := Lib.hid hpre2
      clear hpre2
      go_loopw [3, 98] (fun s i wr => ∃ k : Nat, k ≤ m.links.length ∧ i = .int .i64 k ∧ s = .string (bs (pre2 ++ (m.links.take k).flatMap lnkE)) ∧ Below w1.heap.size w1 wr) (fun _ i _ => (m.links.length - intOf i).toNat)
      case atStart => exact ⟨0, by omega, rfl, by simp, hB6⟩
      case round =>
        clear hbr hz hz6 hB6 b9
        obtain ⟨k, hk, rfl, rfl, hbr⟩ := hrel
        have hz := hbr.size
        by_cases hlt : k < m.links.length
        · obtain ⟨p, off, rfl, hpb, hok, x1, x2⟩ := lnk_at (HL1.out.below hbr) hlt
          have HT := Lib.hid (flat_take lnkE m.links k hlt)
          have hgl := HGL.out k hk
          generalize m.links[k] = x at x1 x2 HT hok
          generalize (m.links.take k).flatMap lnkE = done2 at hgl HT ⊢
          obtain ⟨p1, p2⟩ := x
          have HI4 := i64_2 hok.1 hok.2
          have hxl : (lnkE (p1, p2)).length ≤ 100 := lnkE_len hok
          change (Wire.encIs [p1, p2]).length ≤ 100 at hxl
          go_wp2_with fail
          refine (rints_2 p1 p2 _ _ _ HI4 (rdn2 _ _ _ _ _ _ (by simp))).mono ?_
          rintro e w8 ⟨rfl, hb8⟩
          go_wp2_with fail
          go_roundw
          case rel => exact ⟨k + 1, by omega, by go_num, by rw [HT.out]; simp [lnkE, List.append_assoc], ((hbr.alloc hz _).alloc (by simp; omega) _).trans (hb8.mono (by simp; omega))⟩
          case measure => simp [intOf] <;> omega
        · have hta : m.links.take k = m.links := List.take_of_length_le (by omega)
          rw [hta]
          go_wp2_with fail
          go_ret
          refine ⟨?_, hB.trans (hbr.mono (by omega))⟩
          rw [← HPRE2.out, ← HD.out, ← HPRE.out]
          simp [headE, authE, segsE, lnksE, List.append_assoc]
end Go.Proofs.Ytlpkkcodmoklaaa
