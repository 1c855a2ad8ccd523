/- The walk of the law WireExact. -/
import Derived.Test.YtlpkkcodmoklaaaWireAlive
import Derived.Test.YtlpkkcodmoklaaaWirePlainC
namespace Go.Proofs.Ytlpkkcodmoklaaa
open Go.RowKit
attribute [local go_sem] bs_size bs_get bs_append bs_extract bs_toList
/-- The list that was taken is still there, and nothing that was there at first has turned. -/
structure InvL (w : World) (v : Value) (L : List Int) (w' : World) : Prop where
  rd : Rd w' w'.heap.size 1 v L.length (cellsI L)
  below : Below w.heap.size w w'
theorem InvL.step {w : World} {v : Value} {L : List Int} {w' w'' : World} (h : InvL w v L w') (hb : Below w'.heap.size w' w'') : InvL w v L w'' := ⟨h.rd.at_now hb (Nat.le_refl _), bthen h.below hb⟩
/-- What a taking gives, with the tests of the law decided. -/
theorem takeU_part' (l : List UInt8) (at' : Int) : (((Wire.takeU l at').2.2 == 0) = true ∧ (0 ≤ at' ∧ at' ≤ (Wire.takeU l at').2.1 ∧ (Wire.takeU l at').2.1 ≤ l.length ∧ (l.take (Wire.takeU l at').2.1.toNat).drop at'.toNat = Wire.enc (Wire.takeU l at').1)) ∨ ((Wire.takeU l at').2.2 == 0) = false := by
  by_cases h : (Wire.takeU l at').2.2 = 0
  · exact Or.inl ⟨by simp [h], Wire.takeU_part h⟩
  · exact Or.inr (by simp [h])
theorem takeI_part' (l : List UInt8) (at' : Int) : (((Wire.takeI l at').2.2 == 0) = true ∧ (0 ≤ at' ∧ at' ≤ (Wire.takeI l at').2.1 ∧ (Wire.takeI l at').2.1 ≤ l.length ∧ (l.take (Wire.takeI l at').2.1.toNat).drop at'.toNat = Wire.encI (Wire.takeI l at').1)) ∨ ((Wire.takeI l at').2.2 == 0) = false := by
  by_cases h : (Wire.takeI l at').2.2 = 0
  · exact Or.inl ⟨by simp [h], Wire.takeI_part h⟩
  · exact Or.inr (by simp [h])
theorem takeB_part' (l : List UInt8) (at' : Int) : (((Wire.takeB l at').2.2 == 0) = true ∧ (0 ≤ at' ∧ at' ≤ (Wire.takeB l at').2.1 ∧ (Wire.takeB l at').2.1 ≤ l.length ∧ (l.take (Wire.takeB l at').2.1.toNat).drop at'.toNat = Wire.encB (Wire.takeB l at').1)) ∨ ((Wire.takeB l at').2.2 == 0) = false := by
  by_cases h : (Wire.takeB l at').2.2 = 0
  · exact Or.inl ⟨by simp [h], Wire.takeB_part h⟩
  · exact Or.inr (by simp [h])
theorem takeT_part' (l : List UInt8) (at' most : Int) : (((Wire.takeT l at' most).2.2 != 0) = false ∧ (0 ≤ at' ∧ at' ≤ (Wire.takeT l at' most).2.1 ∧ (Wire.takeT l at' most).2.1 ≤ l.length ∧ (l.take (Wire.takeT l at' most).2.1.toNat).drop at'.toNat = Wire.encT (Wire.takeT l at' most).1) ∧ ((Wire.takeT l at' most).1.length : Int) ≤ most) ∨ ((Wire.takeT l at' most).2.2 != 0) = true := by
  by_cases h : (Wire.takeT l at' most).2.2 = 0
  · exact Or.inl ⟨by simp [h], Wire.takeT_part h⟩
  · exact Or.inr (by simp [h])
theorem takeL_part' (l : List UInt8) (at' most : Int) : (((Wire.takeL l at' most).2.2 != 0) = false ∧ (0 ≤ at' ∧ at' ≤ (Wire.takeL l at' most).2.1 ∧ (Wire.takeL l at' most).2.1 ≤ l.length ∧ (l.take (Wire.takeL l at' most).2.1.toNat).drop at'.toNat = Wire.encL (Wire.takeL l at' most).1) ∧ ((Wire.takeL l at' most).1.length : Int) ≤ most) ∨ ((Wire.takeL l at' most).2.2 != 0) = true := by
  by_cases h : (Wire.takeL l at' most).2.2 = 0
  · exact Or.inl ⟨by simp [h], Wire.takeL_part h |>.1, (Wire.takeL_part h).2.1⟩
  · exact Or.inr (by simp [h])
set_option maxRecDepth 100000 in
theorem wireExact_big (l : List UInt8) (at' most : Int) (w : World) (hl : 2000 < l.length) (hs : l.length ≤ 9223372036854775807) :
    Calls Try.prog 14 #[.string (bs l), .int .i64 at', .int .i64 most] w fun e w' => e = .returned (.bool true) ∧ Below w.heap.size w w' := by
  go_enter Try.func14, Try.ntmps14
  go_wp2_with fail
  refine (alive03 _).mono ?_
  rintro e w1 ⟨rfl, hb1⟩
  go_wp2_with fail
  go_ret
  exact ⟨rfl, hb1⟩
set_option maxRecDepth 100000 in
set_option maxHeartbeats 8000000 in
theorem wireExact_any (l : List UInt8) (at' most : Int) (w : World) (hl : l.length ≤ 2000) (h1 : -9223372036854775808 ≤ at') (h2 : at' ≤ 9223372036854775807) (h3 : -9223372036854775808 ≤ most) (h4 : most ≤ 9223372036854775807) :
    Calls Try.prog 14 #[.string (bs l), .int .i64 at', .int .i64 most] w fun e w' => e = .returned (.bool true) ∧ Below w.heap.size w w' := by
  have hs : l.length ≤ 140737488351232 := by omega
  have fu := takeU_part' l at'
  have fi := takeI_part' l at'
  have fb := takeB_part' l at'
  have ft := takeT_part' l at' most
  have fl := takeL_part' l at' most
  have hu := Wire.takeU_lt l at'
  have hi := Wire.takeI_bd l at'
  have htl : (Wire.takeT l at' most).1.length ≤ 1000000 := Nat.le_trans (Wire.takeT_len l at' most) (by omega)
  have hll : (Wire.takeL l at' most).1.length ≤ 1000000 := Nat.le_trans (Wire.takeL_len l at' most) (by omega)
  have hlI : I64 (Wire.takeL l at' most).1 := Wire.takeL_i64 l at' most
  obtain ⟨hi1, hi2⟩ := hi
  have CU := Lib.hid (fun W => takeUint_any l at' W hs h1 h2)
  have CI := Lib.hid (fun W => takeInt_any l at' W hs h1 h2)
  have CB := Lib.hid (fun W => takeBool_any l at' W hs)
  have CT := Lib.hid (fun W => takeText_any l at' most W hs h1 h2 h3 h4)
  have CL := Lib.hid (fun W => takeInts_any l at' most W (by omega) h1 h2 h3 h4)
  generalize Wire.takeU l at' = ru at fu hu CU
  generalize Wire.takeI l at' = ri at fi hi1 hi2 CI
  generalize Wire.takeB l at' = rb at fb CB
  generalize Wire.takeT l at' most = rt at ft htl CT
  generalize Wire.takeL l at' most = rl at fl hll hlI CL
  obtain ⟨u, nu, eu⟩ := ru
  obtain ⟨i, ni, ei⟩ := ri
  obtain ⟨b, nb, eb⟩ := rb
  obtain ⟨t, nt, et⟩ := rt
  obtain ⟨L, nl, el⟩ := rl
  simp only at fu fi fb ft fl hu hi1 hi2 htl hll hlI
  rcases fu with ⟨bu, pu⟩ | bu <;> rcases fi with ⟨bi, pi⟩ | bi <;> rcases fb with ⟨bb, pb⟩ | bb <;> rcases ft with ⟨bt, pt, mt⟩ | bt <;> rcases fl with ⟨bl, pl, ml⟩ | bl
  all_goals
    go_enter Try.func14, Try.ntmps14
    go_wp2_with fail
    refine (CU.out _).mono ?_
    rintro e w1 ⟨rfl, hb1⟩
    go_wp2_with fail
    refine (CI.out _).mono ?_
    rintro e w2 ⟨rfl, hb2⟩
    go_wp2_with fail
    refine (CB.out _).mono ?_
    rintro e w3 ⟨rfl, rfl⟩
    go_wp2_with fail
    refine (CT.out _).mono ?_
    rintro e w4 ⟨rfl, hb4⟩
    go_wp2_with fail
    refine (CL.out _).mono ?_
    rintro e w5 ⟨v, rfl, hr, hb5⟩
    have hinv : InvL w v L w5 := ⟨hr, bthen (bthen (bthen hb1 hb2) hb4) hb5⟩
    obtain ⟨_, A, cap, hv, _⟩ := id hr
    subst hv
    clear hr hb1 hb2 hb4 hb5 CU CI CB CT CL
    go_wp2_with (first
      | (go_at_call 56; refine (is_any _ _ _ _ _ hs (by assumption)).mono ?_; rintro e wq ⟨rfl, rfl⟩)
      | (go_at_call 39; refine (uint_any _ _ (by assumption)).mono ?_; rintro e wq ⟨rfl, hq⟩; replace hinv := hinv.step hq; clear hq)
      | (go_at_call 41; refine (int_any _ _ (by assumption) (by assumption)).mono ?_; rintro e wq ⟨rfl, hq⟩; replace hinv := hinv.step hq; clear hq)
      | (go_at_call 52; refine (bool_any _ _).mono ?_; rintro e wq ⟨rfl, rfl⟩)
      | (go_at_call 42; refine (text_any _ _ (by assumption)).mono ?_; rintro e wq ⟨rfl, hq⟩; replace hinv := hinv.step hq; clear hq)
      | (go_at_call 43; refine (ints_any L _ _ (by assumption) (by assumption) hinv.rd).mono ?_; rintro e wq ⟨rfl, hq⟩; replace hinv := hinv.step hq; clear hq)
      | (go_at_call 31; refine (alive03 _).mono ?_; rintro e wq ⟨rfl, hq⟩; replace hinv := hinv.step hq; clear hq))
    go_ret
    exact ⟨rfl, hinv.below⟩
end Go.Proofs.Ytlpkkcodmoklaaa
