/- WireEncodes: the walk. -/
import Derived.Test.YtlpkkcodmoklaaaWireAlive
import Derived.Test.YtlpkkcodmoklaaaWirePlainC
import Derived.Deep.RegionHeld3
import Derived.Outline
namespace Go.Proofs.Ytlpkkcodmoklaaa
open Go.RowKit
attribute [local go_sem] bs_size bs_get bs_append bs_extract bs_toList
theorem short_yes (u n : Int) (b : Bool) (s : List UInt8) (A : Option Addr) (m c : Nat) (w : World) (hs : s.length ≤ 400) (hm : m ≤ 400) :
    Calls Try.prog 40 #[.agg #[.int .u64 u, .int .i64 n, .bool b, .string (bs s), .slice A m c]] w fun e w' => e = .returned (.bool true) ∧ Below w.heap.size w w' := by
  have d : decide ((m : Int) ≤ 400) = true := decide_eq_true (by omega)
  go_enter Try.func40, Try.ntmps40
  go_wp2_with fail
  go_ret
  exact ⟨by simp, (Below.refl _ _).alloc (Nat.le_refl _) _⟩
theorem short_no (u n : Int) (b : Bool) (s : List UInt8) (A : Option Addr) (m c : Nat) (w : World) (h : 400 < s.length ∨ (s.length ≤ 400 ∧ 400 < m)) (hs : s.length ≤ 9223372036854775807) (hm : m ≤ 9223372036854775807) :
    Calls Try.prog 40 #[.agg #[.int .u64 u, .int .i64 n, .bool b, .string (bs s), .slice A m c]] w fun e w' => e = .returned (.bool false) ∧ Below w.heap.size w w' := by
  rcases h with h | ⟨h, h'⟩
  · go_enter Try.func40, Try.ntmps40
    go_wp2_with fail
    go_ret
    exact ⟨rfl, (Below.refl _ _).alloc (Nat.le_refl _) _⟩
  · have d : decide ((m : Int) ≤ 400) = false := decide_eq_false (by omega)
    go_enter Try.func40, Try.ntmps40
    go_wp2_with fail
    go_ret
    exact ⟨by simp, (Below.refl _ _).alloc (Nat.le_refl _) _⟩
/-- The box of the value is there, the list reads as it did, and nothing that was there at first has turned. -/
structure InvE (w : World) (A : Option Addr) (c : Nat) (L : List Int) (w' : World) : Prop where
  rd : Rd w' w'.heap.size 1 (.slice A L.length c) L.length (cellsI L)
  below : Below w.heap.size w w'
  box : w.heap.size < w'.heap.size
theorem held_step {w : World} {A : Option Addr} {c : Nat} {L : List Int} {v0 v1 v2 v3 v4 : Value} {w1 w2 : World}
    (h : w1.cell? ⟨w.heap.size, 0, none⟩ = some v0 ∧ w1.cell? ⟨w.heap.size, 1, none⟩ = some v1 ∧ w1.cell? ⟨w.heap.size, 2, none⟩ = some v2 ∧ w1.cell? ⟨w.heap.size, 3, none⟩ = some v3 ∧ w1.cell? ⟨w.heap.size, 4, none⟩ = some v4 ∧ InvE w A c L w1)
    (hb : Below w1.heap.size w1 w2) :
    w2.cell? ⟨w.heap.size, 0, none⟩ = some v0 ∧ w2.cell? ⟨w.heap.size, 1, none⟩ = some v1 ∧ w2.cell? ⟨w.heap.size, 2, none⟩ = some v2 ∧ w2.cell? ⟨w.heap.size, 3, none⟩ = some v3 ∧ w2.cell? ⟨w.heap.size, 4, none⟩ = some v4 ∧ InvE w A c L w2 := by
  obtain ⟨h0, h1, h2, h3, h4, h5⟩ := h
  have k : ∀ j, w2.cell? ⟨w.heap.size, j, none⟩ = w1.cell? ⟨w.heap.size, j, none⟩ := fun j => hb.cell (p := ⟨w.heap.size, j, none⟩) h5.box
  refine ⟨(k 0).trans h0, (k 1).trans h1, (k 2).trans h2, (k 3).trans h3, (k 4).trans h4, h5.rd.at_now hb (Nat.le_refl _), bthen h5.below hb, Nat.lt_of_lt_of_le h5.box hb.size⟩

theorem held_drew {w : World} {A : Option Addr} {c : Nat} {L : List Int} {v0 v1 v2 v3 v4 : Value} {w1 : World}
    (h : w1.cell? ⟨w.heap.size, 0, none⟩ = some v0 ∧ w1.cell? ⟨w.heap.size, 1, none⟩ = some v1 ∧ w1.cell? ⟨w.heap.size, 2, none⟩ = some v2 ∧ w1.cell? ⟨w.heap.size, 3, none⟩ = some v3 ∧ w1.cell? ⟨w.heap.size, 4, none⟩ = some v4 ∧ InvE w A c L w1) :
    w1.drew.cell? ⟨w.heap.size, 0, none⟩ = some v0 ∧ w1.drew.cell? ⟨w.heap.size, 1, none⟩ = some v1 ∧ w1.drew.cell? ⟨w.heap.size, 2, none⟩ = some v2 ∧ w1.drew.cell? ⟨w.heap.size, 3, none⟩ = some v3 ∧ w1.drew.cell? ⟨w.heap.size, 4, none⟩ = some v4 ∧ InvE w A c L w1.drew :=
  held_step h (Below.refl _ _).drew
theorem held_rd {w : World} {A : Option Addr} {c : Nat} {L : List Int} {v0 v1 v2 v3 v4 : Value} {w1 : World}
    (h : w1.cell? ⟨w.heap.size, 0, none⟩ = some v0 ∧ w1.cell? ⟨w.heap.size, 1, none⟩ = some v1 ∧ w1.cell? ⟨w.heap.size, 2, none⟩ = some v2 ∧ w1.cell? ⟨w.heap.size, 3, none⟩ = some v3 ∧ w1.cell? ⟨w.heap.size, 4, none⟩ = some v4 ∧ InvE w A c L w1) :
    Rd w1 w1.heap.size 1 (.slice A L.length c) L.length (cellsI L) := h.2.2.2.2.2.rd
theorem held_below {w : World} {A : Option Addr} {c : Nat} {L : List Int} {v0 v1 v2 v3 v4 : Value} {w1 : World}
    (h : w1.cell? ⟨w.heap.size, 0, none⟩ = some v0 ∧ w1.cell? ⟨w.heap.size, 1, none⟩ = some v1 ∧ w1.cell? ⟨w.heap.size, 2, none⟩ = some v2 ∧ w1.cell? ⟨w.heap.size, 3, none⟩ = some v3 ∧ w1.cell? ⟨w.heap.size, 4, none⟩ = some v4 ∧ InvE w A c L w1) :
    Below w.heap.size w w1 := h.2.2.2.2.2.below
set_option maxRecDepth 100000 in
set_option maxHeartbeats 4000000 in
theorem wireEncodes_few (u : Nat) (n : Int) (b : Bool) (s : List UInt8) (L : List Int) (A : Option Addr) (c : Nat) (w : World) (hs : s.length ≤ 400) (hL : L.length ≤ 400) (hu : u < 18446744073709551616) (h1 : -9223372036854775808 ≤ n) (h2 : n ≤ 9223372036854775807) (hI : I64 L)
    (hr : Rd w w.heap.size 1 (.slice A L.length c) L.length (cellsI L)) :
    Calls Try.prog 12 #[.agg #[.int .u64 u, .int .i64 n, .bool b, .string (bs s), .slice A L.length c]] w fun e w' => e = .returned (.bool true) ∧ Below w.heap.size w w' := by
  have hs' : s.length ≤ 1000000 := by omega
  have hL' : L.length ≤ 1000000 := by omega
  go_enter Try.func12, Try.ntmps12
  go_wp2_with fail
  refine (short_yes u n b s A L.length c _ hs hL).mono ?_
  rintro e w1 ⟨rfl, hb1⟩
  have hS : w1.cell? ⟨w.heap.size, 0, none⟩ = some (.int .u64 (u : Int)) ∧ w1.cell? ⟨w.heap.size, 1, none⟩ = some (.int .i64 n) ∧ w1.cell? ⟨w.heap.size, 2, none⟩ = some (.bool b) ∧ w1.cell? ⟨w.heap.size, 3, none⟩ = some (.string (bs s)) ∧ w1.cell? ⟨w.heap.size, 4, none⟩ = some (.slice A L.length c) ∧ InvE w A c L w1 := by
    refine held_step (w := w) (w1 := w.alloc (.cells #[.int .u64 (u : Int), .int .i64 n, .bool b, .string (bs s), .slice A L.length c] 48)) ⟨?_, ?_, ?_, ?_, ?_, ?_, ?_, ?_⟩ hb1
    · rw [World.cell?_alloc_at _ _ _ _ rfl]; rfl
    · rw [World.cell?_alloc_at _ _ _ _ rfl]; rfl
    · rw [World.cell?_alloc_at _ _ _ _ rfl]; rfl
    · rw [World.cell?_alloc_at _ _ _ _ rfl]; rfl
    · rw [World.cell?_alloc_at _ _ _ _ rfl]; rfl
    · exact (hr.keep fun p hp => World.cell?_alloc_lt w _ p hp).more (by simp)
    · exact (Below.refl _ _).alloc (Nat.le_refl _) _
    · simp
  clear hb1 hr
  go_wp2_with fail
  go_region_held3 (fun w' => w'.cell? ⟨w.heap.size, 0, none⟩ = some (.int .u64 (u : Int)) ∧ w'.cell? ⟨w.heap.size, 1, none⟩ = some (.int .i64 n) ∧ w'.cell? ⟨w.heap.size, 2, none⟩ = some (.bool b) ∧ w'.cell? ⟨w.heap.size, 3, none⟩ = some (.string (bs s)) ∧ w'.cell? ⟨w.heap.size, 4, none⟩ = some (.slice A L.length c) ∧ InvE w A c L w')
    (first | assumption | exact held_drew ‹_› | (refine held_step ?_ ‹_›; assumption))
    (first
      | (go_at_call 39; refine (uint_any _ _ hu).mono ?_; rintro e wq ⟨rfl, hq⟩)
      | (go_at_call 50; refine (refUint_any _ _ hu).mono ?_; rintro e wq ⟨rfl, hq⟩)
      | (go_at_call 41; refine (int_any _ _ h1 h2).mono ?_; rintro e wq ⟨rfl, hq⟩)
      | (go_at_call 51; refine (refInt_any _ _ h1 h2).mono ?_; rintro e wq ⟨rfl, hq⟩)
      | (go_at_call 52; refine (bool_any _ _).mono ?_; rintro e wq ⟨rfl, rfl⟩)
      | (go_at_call 53; refine (refBool_any _ _).mono ?_; rintro e wq ⟨rfl, rfl⟩)
      | (go_at_call 42; refine (text_any _ _ hs').mono ?_; rintro e wq ⟨rfl, hq⟩)
      | (go_at_call 54; refine (refText_any _ _ hs').mono ?_; rintro e wq ⟨rfl, hq⟩)
      | (go_at_call 43; refine (ints_any L _ _ hL' hI (held_rd (by assumption))).mono ?_; rintro e wq ⟨rfl, hq⟩)
      | (go_at_call 55; refine (refInts_any L _ _ hL' hI (held_rd (by assumption))).mono ?_; rintro e wq ⟨rfl, hq⟩)
      | (go_at_call 31; refine (alive03 _).mono ?_; rintro e wq ⟨rfl, hq⟩))
  all_goals (go_wp2_with fail)
  all_goals go_ret
  all_goals (refine ⟨?_, held_below (by assumption)⟩)
  all_goals (first | rfl | simp)

theorem wireEncodes_big (u n : Int) (b : Bool) (s : List UInt8) (A : Option Addr) (m c : Nat) (w : World) (h : 400 < s.length ∨ (s.length ≤ 400 ∧ 400 < m)) (hs : s.length ≤ 9223372036854775807) (hm : m ≤ 9223372036854775807) :
    Calls Try.prog 12 #[.agg #[.int .u64 u, .int .i64 n, .bool b, .string (bs s), .slice A m c]] w fun e w' => e = .returned (.bool true) ∧ Below w.heap.size w w' := by
  go_enter Try.func12, Try.ntmps12
  go_wp2_with fail
  refine (short_no u n b s A m c _ h hs hm).mono ?_
  rintro e w1 ⟨rfl, hb1⟩
  go_wp2_with fail
  refine (alive03 _).mono ?_
  rintro e w2 ⟨rfl, hb2⟩
  go_wp2_with fail
  go_ret
  exact ⟨rfl, bthen (bthen ((Below.refl _ _).alloc (Nat.le_refl _) _) hb1) hb2⟩
end Go.Proofs.Ytlpkkcodmoklaaa
