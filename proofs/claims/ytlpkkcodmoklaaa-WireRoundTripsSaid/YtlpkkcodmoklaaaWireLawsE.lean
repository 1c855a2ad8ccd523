/- WireCuts: the walk. -/
import Derived.Test.YtlpkkcodmoklaaaWireLawsC
import Derived.Test.YtlpkkcodmoklaaaWirePlainD
import Derived.OpenShut
namespace Go.Proofs.Ytlpkkcodmoklaaa
open Go.RowKit
attribute [local go_sem] bs_size bs_get bs_append bs_extract bs_toList
attribute [-go_sem] run_max_int2
theorem cut_max (x : List UInt8) (cut : Int) (h : 1 ≤ cut) (hx : 1 ≤ x.length) : ∃ k : Nat, k < x.length ∧ ∀ W, (Builtin.max_ #[3, 3] 3 #[.int .i64 0, .int .i64 ((x.length : Int) - cut)]).run Try.prog W = .ok (.int .i64 (k : Int)) W := by
  refine ⟨x.length - cut.toNat, by omega, fun W => ?_⟩
  rw [run_max_int2]
  congr 2
  split <;> omega
theorem encT_pos (s : List UInt8) (hs : s.length ≤ 400) : 1 ≤ (Wire.encT s).length := by
  have := (Wire.enc_length s.length (by omega)).1
  unfold Wire.encT
  rw [List.length_append]
  omega
theorem encL_pos (L : List Int) (hL : L.length ≤ 400) : 1 ≤ (Wire.encL L).length := by
  have := (Wire.enc_length L.length (by omega)).1
  unfold Wire.encL
  rw [List.length_append]
  omega
theorem encT_len (s : List UInt8) (hs : s.length ≤ 400) : (Wire.encT s).length ≤ 500 := by
  have := (Wire.enc_length s.length (by omega)).2
  unfold Wire.encT
  rw [List.length_append]
  omega
theorem encL_len (L : List Int) (hL : L.length ≤ 400) (hI : I64 L) : (Wire.encL L).length ≤ 5000 := by
  have := (Wire.enc_length L.length (by omega)).2
  have := Wire.encIs_length L hI
  unfold Wire.encL
  rw [List.length_append]
  omega
set_option maxRecDepth 100000 in
set_option maxHeartbeats 4000000 in
theorem wireCuts_few (w : World) (u : Nat) (n : Int) (b : Bool) (s : List UInt8) (L : List Int) (A : Option Addr) (c : Nat) (cut : Int) (hs : s.length ≤ 400) (hL : L.length ≤ 400) (hu : u < 18446744073709551616) (h1 : -9223372036854775808 ≤ n) (h2 : n ≤ 9223372036854775807) (hI : I64 L)
    (hr : Rd w w.heap.size 1 (.slice A L.length c) L.length (cellsI L)) (c1 : 1 ≤ cut) (c2 : cut ≤ 9223372036854775807) :
    Calls Try.prog 10 #[.agg #[.int .u64 u, .int .i64 n, .bool b, .string (bs s), .slice A L.length c], .int .i64 cut] w fun e w' => e = .returned (.bool true) ∧ Below w.heap.size w w' := by
  have hs' : s.length ≤ 1000000 := by omega
  have hL' : L.length ≤ 1000000 := by omega
  go_enter Try.func10, Try.ntmps10
  go_wp2_with fail
  refine (short_yes u n b s A L.length c _ hs hL).mono ?_
  rintro e w1 ⟨rfl, hb1⟩
  have hS : w1.cell? ⟨w.heap.size, 0, none⟩ = some (.int .u64 (u : Int)) ∧ w1.cell? ⟨w.heap.size, 1, none⟩ = some (.int .i64 n) ∧ w1.cell? ⟨w.heap.size, 2, none⟩ = some (.bool b) ∧ w1.cell? ⟨w.heap.size, 3, none⟩ = some (.string (bs s)) ∧ w1.cell? ⟨w.heap.size, 4, none⟩ = some (.slice A L.length c) ∧ InvE w A c L w1 := by
    refine held_step (w := w) (w1 := w.alloc (.cells #[.int .u64 (u : Int), .int .i64 n, .bool b, .string (bs s), .slice A L.length c] 48)) ⟨?_, ?_, ?_, ?_, ?_, ?_, ?_, ?_⟩ hb1
    · rw [World.cell?_alloc_at _ _ _ _ rfl]; rfl
    · rw [World.cell?_alloc_at _ _ _ _ rfl]; rfl
    · rw [World.cell?_alloc_at _ _ _ _ rfl]; rfl
    · rw [World.cell?_alloc_at _ _ _ _ rfl]; rfl
    · rw [World.cell?_alloc_at _ _ _ _ rfl]; rfl
    · exact (hr.keep fun p hp => World.cell?_alloc_lt w _ p hp).more (by simp)
    · exact (Below.refl _ _).alloc (Nat.le_refl _) _
    · simp
  clear hb1 hr
  go_wp2_with fail
  go_region_held3 (fun w' => w'.cell? ⟨w.heap.size, 0, none⟩ = some (.int .u64 (u : Int)) ∧ w'.cell? ⟨w.heap.size, 1, none⟩ = some (.int .i64 n) ∧ w'.cell? ⟨w.heap.size, 2, none⟩ = some (.bool b) ∧ w'.cell? ⟨w.heap.size, 3, none⟩ = some (.string (bs s)) ∧ w'.cell? ⟨w.heap.size, 4, none⟩ = some (.slice A L.length c) ∧ InvE w A c L w')
    (first | assumption | exact held_drew ‹_› | (refine held_step ?_ ‹_›; assumption))
    (first
      | (go_at_call 39; refine (uint_any _ _ hu).mono ?_; rintro e wq ⟨rfl, hq⟩)
      | (go_at_call 41; refine (int_any _ _ h1 h2).mono ?_; rintro e wq ⟨rfl, hq⟩)
      | (go_at_call 42; refine (text_any _ _ hs').mono ?_; rintro e wq ⟨rfl, hq⟩)
      | (go_at_call 43; refine (ints_any L _ _ hL' hI (held_rd (by assumption))).mono ?_; rintro e wq ⟨rfl, hq⟩))
  all_goals (
    rename_i hz
    obtain ⟨k1, hk1, m1⟩ := cut_max (Wire.enc u) cut c1 (Wire.enc_length u hu).1
    obtain ⟨k2, hk2, m2⟩ := cut_max (Wire.encI n) cut c1 (Wire.encI_length n ⟨h1, h2⟩).1
    obtain ⟨k3, hk3, m3⟩ := cut_max (Wire.encT s) cut c1 (encT_pos s hs)
    obtain ⟨k4, hk4, m4⟩ := cut_max (Wire.encL L) cut c1 (encL_pos L hL)
    have l1 := (Wire.enc_length u hu).2
    have l2 := (Wire.encI_length n ⟨h1, h2⟩).2
    have l3 := encT_len s hs
    have l4 := encL_len L hL hI
    have e1 : ((Wire.takeU ((Wire.enc u).take k1) 0).2.2 == 5) = true := by rw [Wire.takeU_cut u k1 hu hk1]; rfl
    have e2 : ((Wire.takeI ((Wire.encI n).take k2) 0).2.2 == 5) = true := by rw [Wire.takeI_cut n k2 ⟨h1, h2⟩ hk2]; rfl
    have e3 : ((Wire.takeT ((Wire.encT s).take k3) 0 400).2.2 == 5) = true := by rw [Wire.takeT_cut s k3 hs hk3]; rfl
    have e4 : ((Wire.takeL ((Wire.encL L).take k4) 0 400).2.2 == 5) = true := by rw [Wire.takeL_cut L k4 hL hI hk4]; rfl
    have hbw := held_below hz
    go_wp2_with fail
    refine (takeUint_any _ _ _ (by rw [List.length_take]; omega) (by omega) (by omega)).mono ?_
    rintro e w2 ⟨rfl, hb2⟩
    go_wp2_with fail
    refine (takeInt_any _ _ _ (by rw [List.length_take]; omega) (by omega) (by omega)).mono ?_
    rintro e w3 ⟨rfl, hb3⟩
    go_wp2_with fail
    refine (takeText_any _ _ _ _ (by rw [List.length_take]; omega) (by omega) (by omega) (by omega) (by omega)).mono ?_
    rintro e w4 ⟨rfl, hb4⟩
    go_wp2_with fail
    refine (takeInts_any _ _ _ _ (by rw [List.length_take]; omega) (by omega) (by omega) (by omega) (by omega)).mono ?_
    rintro e w5 ⟨v5, rfl, hrd5, hb5⟩
    go_wp2_with fail
    refine (alive03 _).mono ?_
    rintro e w6 ⟨rfl, hb6⟩
    go_wp2_with fail
    go_ret
    refine ⟨?_, bthen (bthen (bthen (bthen (bthen hbw hb2) hb3) hb4) hb5) hb6⟩
    first | rfl | simp)
/-- No list and text of at most 400 elements, or a cut that is none: the chapter's examples alone. -/
theorem wireCuts_none (w : World) (u n : Int) (b : Bool) (s : List UInt8) (A : Option Addr) (m c : Nat) (cut : Int) (hs : s.length ≤ 400) (hm : m ≤ 400) (hc : cut < 1) (_hc : -9223372036854775808 ≤ cut) :
    Calls Try.prog 10 #[.agg #[.int .u64 u, .int .i64 n, .bool b, .string (bs s), .slice A m c], .int .i64 cut] w fun e w' => e = .returned (.bool true) ∧ Below w.heap.size w w' := by
  go_enter Try.func10, Try.ntmps10
  go_wp2_with fail
  refine (short_yes u n b s A m c _ hs hm).mono ?_
  rintro e w1 ⟨rfl, hb1⟩
  go_wp2_with fail
  refine (alive03 _).mono ?_
  rintro e w2 ⟨rfl, hb2⟩
  go_wp2_with fail
  go_ret
  exact ⟨rfl, bthen (bthen ((Below.refl _ _).alloc (Nat.le_refl _) _) hb1) hb2⟩
theorem wireCuts_big (w : World) (u n : Int) (b : Bool) (s : List UInt8) (A : Option Addr) (m c : Nat) (cut : Int) (h : 400 < s.length ∨ (s.length ≤ 400 ∧ 400 < m)) (hs : s.length ≤ 9223372036854775807) (hm : m ≤ 9223372036854775807) :
    Calls Try.prog 10 #[.agg #[.int .u64 u, .int .i64 n, .bool b, .string (bs s), .slice A m c], .int .i64 cut] w fun e w' => e = .returned (.bool true) ∧ Below w.heap.size w w' := by
  go_enter Try.func10, Try.ntmps10
  go_wp2_with fail
  refine (short_no u n b s A m c _ h hs hm).mono ?_
  rintro e w1 ⟨rfl, hb1⟩
  go_wp2_with fail
  refine (alive03 _).mono ?_
  rintro e w2 ⟨rfl, hb2⟩
  go_wp2_with fail
  go_ret
  exact ⟨rfl, bthen (bthen ((Below.refl _ _).alloc (Nat.le_refl _) _) hb1) hb2⟩
theorem wireCuts_walk (w : World) (u : Nat) (n : Int) (b : Bool) (s : List UInt8) (A : Option Addr) (L : List Int) (c : Nat) (hu : u < 18446744073709551616) (h1 : -9223372036854775808 ≤ n) (h2 : n ≤ 9223372036854775807) (hs : s.length ≤ maxLen) (hL : L.length ≤ maxLen) (hI : I64 L)
    (hr : Rd w w.heap.size 1 (.slice A L.length c) L.length (cellsI L)) (cut : Int) (hc : (Lit.int .i64 cut).wf = true) :
    Calls Try.prog 10 #[.agg #[.int .u64 u, .int .i64 n, .bool b, .string (bs s), .slice A L.length c], .int .i64 cut] w fun e w' => e = .returned (.bool true) ∧ Below w.heap.size w w' := by
  have e : maxLen ≤ 9223372036854775807 := by decide
  have bc := bounds_i64 hc
  by_cases h : s.length ≤ 400
  · by_cases h' : L.length ≤ 400
    · by_cases h'' : cut < 1
      · exact wireCuts_none w u n b s A L.length c cut h h' h'' bc.1
      · exact wireCuts_few w u n b s L A c cut h h' hu h1 h2 hI hr (by omega) bc.2
    · exact wireCuts_big w u n b s A L.length c cut (.inr ⟨h, by omega⟩) (by omega) (by omega)
  · exact wireCuts_big w u n b s A L.length c cut (.inl (by omega)) (by omega) (by omega)
end Go.Proofs.Ytlpkkcodmoklaaa
