/- WireRoundTrips: the walk. -/
import Derived.Test.YtlpkkcodmoklaaaWireLawsE
namespace Go.Proofs.Ytlpkkcodmoklaaa
open Go.RowKit
attribute [local go_sem] bs_size bs_get bs_append bs_extract bs_toList
set_option maxRecDepth 100000 in
set_option maxHeartbeats 4000000 in
theorem wireTrips_few (w : World) (u : Nat) (n : Int) (b : Bool) (s : List UInt8) (L : List Int) (A : Option Addr) (c : Nat) (p q : List UInt8) (hs : s.length ≤ 400) (hL : L.length ≤ 400) (hu : u < 18446744073709551616) (h1 : -9223372036854775808 ≤ n) (h2 : n ≤ 9223372036854775807) (hI : I64 L)
    (hr : Rd w w.heap.size 1 (.slice A L.length c) L.length (cellsI L)) (hp : p.length ≤ 400) (hq : q.length ≤ 400) :
    Calls Try.prog 13 #[.agg #[.int .u64 u, .int .i64 n, .bool b, .string (bs s), .slice A L.length c], .string (bs p), .string (bs q)] w fun e w' => e = .returned (.bool true) ∧ Below w.heap.size w w' := by
  have hs' : s.length ≤ 1000000 := by omega
  have hL' : L.length ≤ 1000000 := by omega
  have l1 := (Wire.enc_length u hu).2
  have l2 := (Wire.encI_length n ⟨h1, h2⟩).2
  have l3 := encT_len s hs
  have l4 := encL_len L hL hI
  have l5 : (Wire.encB b).length = 1 := by cases b <;> rfl
  have tU : ∀ W, Calls Try.prog 44 #[.string (bs (p ++ (Wire.enc u ++ q))), .int .i64 (p.length : Int)] W fun e w' => e = .returned (.tuple #[.int .u64 (u : Int), .int .i64 ((p.length : Int) + (Wire.enc u).length), .int .i64 0]) ∧ Below W.heap.size W w' := fun W => by
    have := takeUint_any (p ++ Wire.enc u ++ q) p.length W (by simp only [List.length_append]; omega) (by omega) (by omega)
    rw [Wire.takeU_enc p q u hu, List.append_assoc] at this
    exact this
  have tI : ∀ W, Calls Try.prog 45 #[.string (bs (p ++ (Wire.encI n ++ q))), .int .i64 (p.length : Int)] W fun e w' => e = .returned (.tuple #[.int .i64 n, .int .i64 ((p.length : Int) + (Wire.encI n).length), .int .i64 0]) ∧ Below W.heap.size W w' := fun W => by
    have := takeInt_any (p ++ Wire.encI n ++ q) p.length W (by simp only [List.length_append]; omega) (by omega) (by omega)
    rw [Wire.takeI_enc p q n ⟨h1, h2⟩, List.append_assoc] at this
    exact this
  have tB : ∀ W, Calls Try.prog 48 #[.string (bs (p ++ (Wire.encB b ++ q))), .int .i64 (p.length : Int)] W fun e w' => e = .returned (.tuple #[.bool b, .int .i64 ((p.length : Int) + 1), .int .i64 0]) ∧ W = w' := fun W => by
    have := takeBool_any (p ++ Wire.encB b ++ q) p.length W (by simp only [List.length_append]; omega)
    rw [Wire.takeB_enc p q b, List.append_assoc] at this
    exact this
  have tT : ∀ W, Calls Try.prog 32 #[.string (bs (p ++ (Wire.encT s ++ q))), .int .i64 (p.length : Int), .int .i64 (s.length : Int)] W fun e w' => e = .returned (.tuple #[.string (bs s), .int .i64 ((p.length : Int) + (Wire.encT s).length), .int .i64 0]) ∧ Below W.heap.size W w' := fun W => by
    have := takeText_any (p ++ Wire.encT s ++ q) p.length s.length W (by simp only [List.length_append]; omega) (by omega) (by omega) (by omega) (by omega)
    rw [Wire.takeT_enc p q s (by omega), List.append_assoc] at this
    exact this
  have tL : ∀ W, Calls Try.prog 36 #[.string (bs (p ++ (Wire.encL L ++ q))), .int .i64 (p.length : Int), .int .i64 (L.length : Int)] W (TakesL (L, (p.length : Int) + (Wire.encL L).length, 0) W) := fun W => by
    have := takeInts_any (p ++ Wire.encL L ++ q) p.length L.length W (by simp only [List.length_append]; omega) (by omega) (by omega) (by omega) (by omega)
    rw [Wire.takeL_enc p q L hI (by omega), List.append_assoc] at this
    exact this
  have hsm := sameB_self L
  have o1 : ¬ 9223372036854775807 < p.length + (Wire.encT s).length := by omega
  have o2 : ¬ 9223372036854775807 < p.length + (Wire.encT s).length + q.length := by omega
  have o3 : ¬ 9223372036854775807 < p.length + (Wire.encL L).length := by omega
  have o4 : ¬ 9223372036854775807 < p.length + (Wire.encL L).length + q.length := by omega
  go_enter Try.func13, Try.ntmps13
  go_wp2_with fail
  refine (short_yes u n b s A L.length c _ hs hL).mono ?_
  rintro e w1 ⟨rfl, hb1⟩
  have S1 : w1.cell? ⟨w.heap.size, 0, none⟩ = some (.int .u64 (u : Int)) ∧ w1.cell? ⟨w.heap.size, 1, none⟩ = some (.int .i64 n) ∧ w1.cell? ⟨w.heap.size, 2, none⟩ = some (.bool b) ∧ w1.cell? ⟨w.heap.size, 3, none⟩ = some (.string (bs s)) ∧ w1.cell? ⟨w.heap.size, 4, none⟩ = some (.slice A L.length c) ∧ InvE w A c L w1 := by
    refine held_step (w := w) (w1 := w.alloc (.cells #[.int .u64 (u : Int), .int .i64 n, .bool b, .string (bs s), .slice A L.length c] 48)) ⟨?_, ?_, ?_, ?_, ?_, ?_, ?_, ?_⟩ hb1
    · rw [World.cell?_alloc_at _ _ _ _ rfl]; rfl
    · rw [World.cell?_alloc_at _ _ _ _ rfl]; rfl
    · rw [World.cell?_alloc_at _ _ _ _ rfl]; rfl
    · rw [World.cell?_alloc_at _ _ _ _ rfl]; rfl
    · rw [World.cell?_alloc_at _ _ _ _ rfl]; rfl
    · exact (hr.keep fun p hp => World.cell?_alloc_lt w _ p hp).more (by simp)
    · exact (Below.refl _ _).alloc (Nat.le_refl _) _
    · simp
  clear hb1 hr
  go_wp2_with fail
  refine (uint_any _ _ hu).mono ?_
  rintro e w2 ⟨rfl, hb2⟩
  have S2 := held_step S1 hb2
  clear hb2
  go_wp2_with fail
  refine (tU _).mono ?_
  rintro e w3 ⟨rfl, hb3⟩
  have S3 := held_step S2 hb3
  clear hb3 S1 S2 tU
  go_wp2_with fail
  refine (int_any _ _ h1 h2).mono ?_
  rintro e w4 ⟨rfl, hb4⟩
  have S4 := held_step S3 hb4
  clear hb4
  go_wp2_with fail
  refine (tI _).mono ?_
  rintro e w5 ⟨rfl, hb5⟩
  have S5 := held_step S4 hb5
  clear hb5 S3 S4 tI
  go_wp2_with fail
  refine (bool_any _ _).mono ?_
  rintro e _ ⟨rfl, rfl⟩
  go_wp2_with fail
  refine (tB _).mono ?_
  rintro e _ ⟨rfl, rfl⟩
  clear tB
  go_wp2_with fail
  go_region_held3 (fun w' => w'.cell? ⟨w.heap.size, 0, none⟩ = some (.int .u64 (u : Int)) ∧ w'.cell? ⟨w.heap.size, 1, none⟩ = some (.int .i64 n) ∧ w'.cell? ⟨w.heap.size, 2, none⟩ = some (.bool b) ∧ w'.cell? ⟨w.heap.size, 3, none⟩ = some (.string (bs s)) ∧ w'.cell? ⟨w.heap.size, 4, none⟩ = some (.slice A L.length c) ∧ InvE w A c L w')
    (first | assumption | exact held_drew ‹_› | (refine held_step ?_ ‹_›; assumption))
    (first
      | (go_at_call 42; refine (text_any _ _ hs').mono ?_; rintro e wq ⟨rfl, hq⟩)
      | (go_at_call 32; refine (tT _).mono ?_; rintro e wq ⟨rfl, hq⟩))
  all_goals (
    clear tT
    go_wp2_with fail
    go_region_held3 (fun w' => w'.cell? ⟨w.heap.size, 0, none⟩ = some (.int .u64 (u : Int)) ∧ w'.cell? ⟨w.heap.size, 1, none⟩ = some (.int .i64 n) ∧ w'.cell? ⟨w.heap.size, 2, none⟩ = some (.bool b) ∧ w'.cell? ⟨w.heap.size, 3, none⟩ = some (.string (bs s)) ∧ w'.cell? ⟨w.heap.size, 4, none⟩ = some (.slice A L.length c) ∧ InvE w A c L w')
      (first | assumption | exact held_drew ‹_› | (refine held_step ?_ ‹_›; assumption))
      (first
        | (go_at_call 43; refine (ints_any L _ _ hL' hI (held_rd (by assumption))).mono ?_; rintro e wq ⟨rfl, hq⟩)
        | (go_at_call 36; refine (tL _).mono ?_; rintro e wq ⟨v5, rfl, hrd5, hq⟩)))
  all_goals (
    clear tL
    have S8 : wq.cell? ⟨w.heap.size, 0, none⟩ = some (.int .u64 (u : Int)) ∧ wq.cell? ⟨w.heap.size, 1, none⟩ = some (.int .i64 n) ∧ wq.cell? ⟨w.heap.size, 2, none⟩ = some (.bool b) ∧ wq.cell? ⟨w.heap.size, 3, none⟩ = some (.string (bs s)) ∧ wq.cell? ⟨w.heap.size, 4, none⟩ = some (.slice A L.length c) ∧ InvE w A c L wq := by assumption
    go_wp2_with fail
    refine (same_any L L _ _ _ (by omega) (by omega) hrd5 (held_rd S8)).mono ?_
    rintro e w9 ⟨rfl, hb9⟩
    have S9 := held_step S8 hb9
    clear hb9 S8 hrd5
    rw [hsm]
    go_wp2_with fail
    refine (uint_any _ _ hu).mono ?_
    rintro e w10 ⟨rfl, hb10⟩
    have S10 := held_step S9 hb10
    clear hb10 S9
    go_wp2_with fail
    refine (int_any _ _ h1 h2).mono ?_
    rintro e w11 ⟨rfl, hb11⟩
    have S11 := held_step S10 hb11
    clear hb11 S10
    go_wp2_with fail
    refine (text_any _ _ hs').mono ?_
    rintro e w12 ⟨rfl, hb12⟩
    have S12 := held_step S11 hb12
    clear hb12 S11
    go_wp2_with fail
    refine (ints_any L _ _ hL' hI (held_rd S12)).mono ?_
    rintro e w13 ⟨rfl, hb13⟩
    have S13 := held_step S12 hb13
    clear hb13 S12
    go_wp2_with fail
    refine (alive03 _).mono ?_
    rintro e w14 ⟨rfl, hb14⟩
    go_wp2_with fail
    go_ret
    refine ⟨?_, bthen (held_below S13) hb14⟩
    first | rfl | simp)
end Go.Proofs.Ytlpkkcodmoklaaa
