/- The walks of the small functions on journals: times, texts, digests, sums, equality, shortness. -/
import Derived.Test.YtnckainiphlndaaDoorJnCod
import Derived.Test.YtnckainiphlndaaDoorCrcJ
import Derived.Test.YtnckainiphlndaaDoorWdWalksC
import Derived.Deep.QuietTactic
import Derived.BigQuiet
namespace Go.Proofs.YtnckainiphlndaaDoor
set_option linter.unusedVariables false
set_option linter.unusedSimpArgs false
open Go.RowKit
attribute [local go_sem] bs_size bs_get bs_append bs_extract bs_toList
theorem timely_any (t : Int) (w : World) (ht : I64n t) : Calls Tryd.prog 22 #[.int .i64 t] w fun e w' => e = .returned (.bool (tmB t)) ∧ w = w' := by
  unfold I64n at ht
  go_enter Tryd.func22, Tryd.ntmps22
  go_wp2
  all_goals (go_ret; refine ⟨ret_b ?_, rfl⟩; unfold tmB; rw [Bool.eq_iff_iff]; simp only [Bool.and_eq_true, decide_eq_true_eq, Bool.false_eq_true, true_iff, false_iff]; omega)
set_option maxHeartbeats 1000000 in
theorem legible_any (l : List UInt8) (w : World) (hs : l.length ≤ maxLen) : Calls Tryd.prog 23 #[.string (bs l)] w fun e w' => e = .returned (.bool (legB l)) ∧ w = w' := by
  unfold maxLen at hs
  by_cases hl : l.length < 1 ∨ 2000 < l.length
  · have HF : Hid (legB l = false) := Lib.hid (by
      rw [Bool.eq_false_iff]; intro h; have := (legB_iff.1 h).1; omega)
    go_enter Tryd.func23, Tryd.ntmps23
    go_wp2
    all_goals (go_ret; exact ⟨ret_b HF.out.symm, rfl⟩)
  · have HL : Hid (legB l = l.all prB) := Lib.hid (by
      unfold legB; rw [bool2_true (by omega), Bool.true_and])
    go_enter Tryd.func23, Tryd.ntmps23
    go_wp2
    go_loop [14] (fun i => ∃ k : Nat, k ≤ l.length ∧ i = .int .i64 k ∧ Hid ((l.take k).all prB = true)) (fun i => l.length - (intOf i).toNat)
    case atStart => exact ⟨0, Nat.zero_le _, rfl, Lib.hid (by simp)⟩
    case round =>
      obtain ⟨k, hk, rfl, HA⟩ := hrel
      by_cases hlt : k < l.length
      · have HC : Hid (prB l[k] = (decide (32 ≤ l[k].toNat) && decide (l[k].toNat ≤ 126))) := Lib.hid rfl
        generalize hc : l[k].toNat = c at HC
        go_wp2
        all_goals first
          | (go_ret
             refine ⟨ret_b ?_, rfl⟩
             have h1 : prB l[k] = false := by rw [HC.out]; exact bool2_false (by omega)
             rw [HL.out, not_all hlt h1])
          | (go_round
             case rel => exact ⟨k + 1, by omega, by go_num, Lib.hid (by rw [all_snoc hlt, HA.out, HC.out]; exact bool2_true (by omega))⟩
             case measure => simp [intOf]; omega)
      · have h1 : l.all prB = true := by have := HA.out; rwa [take_all l k hlt] at this
        have H1 := Lib.hid h1
        clear h1
        go_wp2
        go_ret
        exact ⟨ret_b (by rw [HL.out, H1.out]), rfl⟩
set_option maxHeartbeats 1000000 in
theorem rtext_any (l : List UInt8) (w : World) (hs : l.length ≤ maxLen) : Calls Tryd.prog 25 #[.string (bs l)] w fun e w' => e = .returned (.bool (legB l)) ∧ w = w' := by
  unfold maxLen at hs
  go_enter Tryd.func25, Tryd.ntmps25
  go_wp2
  go_loop [3] (fun i => ∃ k : Nat, k ≤ l.length ∧ i = .int .i64 k ∧ Hid ((l.take k).all prB = true)) (fun i => l.length - (intOf i).toNat)
  case atStart => exact ⟨0, Nat.zero_le _, rfl, Lib.hid (by simp)⟩
  case round =>
    obtain ⟨k, hk, rfl, HA⟩ := hrel
    by_cases hlt : k < l.length
    · have HC : Hid (prB l[k] = (decide (32 ≤ l[k].toNat) && decide (l[k].toNat ≤ 126))) := Lib.hid rfl
      generalize hc : l[k].toNat = c at HC
      go_wp2
      all_goals first
        | (go_ret
           refine ⟨ret_b ?_, rfl⟩
           have h1 : prB l[k] = false := by rw [HC.out]; exact bool2_false (by omega)
           unfold legB; rw [not_all hlt h1, Bool.and_false])
        | (go_round
           case rel => exact ⟨k + 1, by omega, by go_num, Lib.hid (by rw [all_snoc hlt, HA.out, HC.out]; exact bool2_true (by omega))⟩
           case measure => simp [intOf]; omega)
    · have HW : Hid (legB l = (decide (1 ≤ l.length) && decide (l.length ≤ 2000))) := Lib.hid (by
        have h1 := HA.out
        rw [take_all l k hlt] at h1
        unfold legB; rw [h1, Bool.and_true])
      go_wp2
      all_goals (go_ret; refine ⟨ret_b ?_, rfl⟩; rw [HW.out, Bool.eq_iff_iff]; simp only [Bool.and_eq_true, decide_eq_true_eq, Bool.false_eq_true, false_iff]; omega)
theorem itoa_short (n : Int) (h : I64n n) : (Lib.itoa n).length ≤ 21 := by
  have h1 : ∀ u : Nat, u ≤ 9223372036854775808 → (Lib.decDigits u).length ≤ 20 := fun u hu => by rw [Lib.decDigits_length]; exact Lib.nDigits_le20 u (by omega)
  unfold I64n at h
  unfold Lib.itoa
  split
  · have := h1 n.natAbs (by omega)
    simp only [List.length_cons]
    omega
  · have := h1 n.toNat (by omega)
    omega
theorem digest_any (b : Nat) (t : Int) (s : List UInt8) (w : World) (E : Env w) (hb : b < 18446744073709551616) (ht : I64n t) (hs : s.length ≤ 90000) :
    Calls Tryd.prog 24 #[.int .u64 b, .int .i64 t, .string (bs s)] w fun e w' => e = .returned (.int .u64 (dgst b t s : Nat)) ∧ Below w.heap.size w w' := by
  have hi := itoa_short t ht
  have hf := format_any t w E ht.1 ht.2
  have hd : dgst b t s = Crc.chain b (Lib.itoa t ++ 32 :: s) := rfl
  have HD := Lib.hid hd
  clear hd
  generalize Lib.itoa t = a at hi hf HD
  go_enter Tryd.func24, Tryd.ntmps24
  go_wp2_with fail
  refine hf.mono ?_
  rintro e w1 ⟨rfl, hb1⟩
  have e1 : bs a ++ { data := #[32] } ++ bs s = bs (a ++ 32 :: s) := by rw [show ({ data := #[32] } : ByteArray) = bs [32] from rfl, bs_append, bs_append, List.append_assoc]; rfl
  have hl : (a ++ 32 :: s).length ≤ 100000 := by simp; omega
  generalize a ++ 32 :: s = m at e1 hl HD
  have hc := chain_any b m w1 hl hb
  go_wp2_with fail
  refine hc.mono ?_
  rintro e w2 ⟨rfl, hb2⟩
  go_wp2_with fail
  go_ret
  exact ⟨ret_int (by rw [HD.out]), bel_then hb1 hb1.size hb2⟩
theorem rdigest_any (b : Nat) (t : Int) (s : List UInt8) (w : World) (hb : b < 18446744073709551616) (ht : I64n t) (hs : s.length ≤ 90000) :
    Calls Tryd.prog 26 #[.int .u64 b, .int .i64 t, .string (bs s)] w fun e w' => e = .returned (.int .u64 (dgst b t s : Nat)) ∧ Below w.heap.size w w' := by
  have hi := itoa_short t ht
  have hf := rformat_any t w ht.1 ht.2
  have hd : dgst b t s = Crc.chain b (Lib.itoa t ++ 32 :: s) := rfl
  have HD := Lib.hid hd
  clear hd
  generalize Lib.itoa t = a at hi hf HD
  go_enter Tryd.func26, Tryd.ntmps26
  go_wp2_with fail
  refine hf.mono ?_
  rintro e w1 ⟨rfl, rfl⟩
  have e1 : bs a ++ { data := #[32] } ++ bs s = bs (a ++ 32 :: s) := by rw [show ({ data := #[32] } : ByteArray) = bs [32] from rfl, bs_append, bs_append, List.append_assoc]; rfl
  have hl : (a ++ 32 :: s).length ≤ 100000 := by simp; omega
  generalize a ++ 32 :: s = m at e1 hl HD
  have hc := refChain_any b m w hl hb
  go_wp2_with fail
  refine hc.mono ?_
  rintro e w2 ⟨rfl, hb2⟩
  go_wp2_with fail
  go_ret
  exact ⟨ret_int (by rw [HD.out]), hb2⟩
theorem sumF_last (l : List Ent) (h : 0 < l.length) : sumF l = l[l.length - 1].sum ∧ lastT l = l[l.length - 1].time := by
  have e1 := sumF_at l (l.length - 1) (by omega)
  have e2 := lastT_at l (l.length - 1) (by omega)
  rw [show l.length - 1 + 1 = l.length by omega, List.take_length] at e1 e2
  exact ⟨e1, e2⟩
theorem sumF_nil (l : List Ent) (h : ¬ 0 < l.length) : sumF l = 0 ∧ lastT l = 0 := by
  obtain rfl : l = [] := List.eq_nil_of_length_eq_zero (by omega)
  exact ⟨rfl, rfl⟩
theorem sum_any (l : List Ent) (A : Option Addr) (cap : Nat) (w : World) (hr : RdS cE w (Lt w) A l) (hl : l.length ≤ maxLen) :
    Calls Tryd.prog 18 #[.slice A l.length cap] w fun e w' => e = .returned (.int .u64 (sumF l : Nat)) ∧ w = w' := by
  unfold maxLen at hl
  by_cases h0 : 0 < l.length
  · have HS := Lib.hid (sumF_last l h0).1
    obtain ⟨b, off, rfl, hb, ho, x0, x1, x2⟩ := ent_at hr (i := l.length - 1) (by omega)
    generalize l[l.length - 1] = x at HS ho x0 x1 x2
    obtain ⟨m, hm⟩ : ∃ m, l.length = m + 1 := ⟨l.length - 1, by omega⟩
    have e : l.length - 1 = m := by omega
    rw [e] at x0 x1 x2
    rw [hm] at hl ⊢
    clear e hm h0 hr
    have hn : ((m + 1 : Nat) : Int) - 1 = (m : Int) := by omega
    have hd : (((m + 1 : Nat) : Int) == 0) = false := by simp; omega
    go_enter Tryd.func18, Tryd.ntmps18
    go_wp2
    go_ret
    exact ⟨ret_int (by rw [HS.out]), rfl⟩
  · have HS := Lib.hid (sumF_nil l h0).1
    have hz : l.length = 0 := by omega
    rw [hz]
    go_enter Tryd.func18, Tryd.ntmps18
    go_wp2
    go_ret
    exact ⟨ret_int (by rw [HS.out]; rfl), rfl⟩
theorem rsum_any (l : List Ent) (A : Option Addr) (cap : Nat) (w : World) (hr : RdS cE w (Lt w) A l) (hl : l.length ≤ maxLen) :
    Calls Tryd.prog 19 #[.slice A l.length cap] w fun e w' => e = .returned (.int .u64 (sumF l : Nat)) ∧ w = w' := by
  unfold maxLen at hl
  by_cases h0 : 0 < l.length
  · have HS := Lib.hid (sumF_last l h0).1
    obtain ⟨b, off, rfl, hb, ho, x0, x1, x2⟩ := ent_at hr (i := l.length - 1) (by omega)
    generalize l[l.length - 1] = x at HS ho x0 x1 x2
    obtain ⟨m, hm⟩ : ∃ m, l.length = m + 1 := ⟨l.length - 1, by omega⟩
    have e : l.length - 1 = m := by omega
    rw [e] at x0 x1 x2
    rw [hm] at hl ⊢
    clear e hm h0 hr
    have hn : ((m + 1 : Nat) : Int) - 1 = (m : Int) := by omega
    have hd : (((m + 1 : Nat) : Int) == 0) = false := by simp; omega
    go_enter Tryd.func19, Tryd.ntmps19
    go_wp2
    go_ret
    exact ⟨ret_int (by rw [HS.out]), rfl⟩
  · have HS := Lib.hid (sumF_nil l h0).1
    have hz : l.length = 0 := by omega
    rw [hz]
    go_enter Tryd.func19, Tryd.ntmps19
    go_wp2
    go_ret
    exact ⟨ret_int (by rw [HS.out]; rfl), rfl⟩
/-! ### Equality -/
theorem fields_of {P : Program} {t : TypeId} {fs : Array Field} (h : P.underlying t = some (.struct fs)) : P.fieldsOf t = fs := by unfold Program.fieldsOf; rw [h]
theorem stoodE : Tryd.prog.stoodInHeld 37 = false := by kernel_rfl
theorem eq_ent (w : World) (d : Nat) (x y : Ent) (b : Bool) (hb : decide (x = y) = b) : (Op.equalIn (d + 2) 37 (.agg #[.int .i64 x.time, .string (bs x.text), .int .u64 (x.sum : Int)]) (.agg #[.int .i64 y.time, .string (bs y.text), .int .u64 (y.sum : Int)])).run Tryd.prog w = .ok b w := by
  subst hb
  have h3 := Tryd.underlying3
  have h9 := Tryd.underlying9
  have h32 := Tryd.underlying32
  have hf := fields_of Tryd.underlying37
  rw [run_equalIn_struct w (d + 1) 37 _ _ (by rw [hf, Tryd.underlying37]) stoodE, hf]
  simp [go_sem]
  obtain ⟨a, b, c⟩ := x
  obtain ⟨a', b', c'⟩ := y
  by_cases h1 : a = a' <;> by_cases h2 : b = b' <;> by_cases h4 : c = c' <;> simp [h1, h2, h4] <;> omega
theorem same_step {a b : List Ent} {k : Nat} (ha : k < a.length) (hb : k < b.length) (h : a.take k = b.take k) (he : a[k] = b[k]) : a.take (k + 1) = b.take (k + 1) := by
  rw [List.take_succ_eq_append_getElem ha, List.take_succ_eq_append_getElem hb, h, he]
attribute [-go_sem] run_equalIn_agg
set_option maxRecDepth 100000 in
set_option maxHeartbeats 4000000 in
theorem same_any (a b : List Ent) (A B : Option Addr) (ca cb : Nat) (w : World) (ha : RdS cE w (Lt w) A a) (hb : RdS cE w (Lt w) B b) (la : a.length ≤ maxLen) (lb : b.length ≤ maxLen) :
    Calls Tryd.prog 12 #[.slice A a.length ca, .slice B b.length cb] w fun e w' => e = .returned (.bool (decide (a = b))) ∧ Below w.heap.size w w' := by
  unfold maxLen at la lb
  by_cases hne : a.length = b.length
  · have HB := Lib.hid hne
    rw [← hne]
    clear hne lb
    go_enter Tryd.func12, Tryd.ntmps12
    go_wp2
    go_loopw [13] (fun i wr => ∃ k : Nat, k ≤ a.length ∧ i = .int .i64 k ∧ Below w.heap.size w wr ∧ Hid (a.take k = b.take k)) (fun i _ => (a.length - intOf i).toNat)
    case atStart => exact ⟨0, Nat.zero_le _, rfl, Below.refl _ _, Lib.hid (by simp)⟩
    case round =>
      obtain ⟨k, hk, rfl, hbr, HE⟩ := hrel
      by_cases hlt : k < a.length
      · have hkb : k < b.length := by rw [← HB.out]; exact hlt
        obtain ⟨b1, o1, rfl, l1, _, x0, x1, x2⟩ := ent_at (ha.now hbr) hlt
        obtain ⟨b2, o2, rfl, l2, _, y0, y1, y2⟩ := ent_at (hb.now hbr) hkb
        have hq : ∀ r, decide (a[k] = b[k]) = r → ∀ W, (Op.equalIn 10000 37 (.agg #[.int .i64 a[k].time, .string (bs a[k].text), .int .u64 (a[k].sum : Int)]) (.agg #[.int .i64 b[k].time, .string (bs b[k].text), .int .u64 (b[k].sum : Int)])).run Tryd.prog W = .ok r W := fun r hr W => eq_ent W 9998 a[k] b[k] r hr
        have HS : Hid (a[k] = b[k] → a.take (k + 1) = b.take (k + 1)) := Lib.hid fun h => same_step hlt hkb HE.out h
        have HN : Hid (a[k] ≠ b[k] → decide (a = b) = false) := Lib.hid fun h => by
          rw [decide_eq_false_iff_not]; intro e; subst e; exact h rfl
        generalize a[k] = x at x0 x1 x2 hq HS HN
        generalize b[k] = y at y0 y1 y2 hq HS HN
        clear HE ha hb l1 l2
        by_cases hxy : x = y
        · have HK := Lib.hid (HS.out hxy)
          replace hq := hq true (decide_eq_true hxy)
          clear HS HN hxy
          go_wp2_with fail
          (refine wp_region_quiet_lit (by kernel_rfl) (by kernel_rfl) ?_; (repeat (any_goals (first | go_big_quiet_step (fail) | quiet_step (fail) | (refine wpQuiet_step (fun K hK => ?_); go_simp; split <;> (refine hK _ ?_; clear hK K))))); all_goals (refine wpQuiet_nil ?_; intro _ hw'; obtain ⟨nq, hw''⟩ := hw'; subst hw''))
          go_wp2_with fail
          go_roundw
          case rel => exact ⟨k + 1, by omega, by go_num, Below.drewN hbr _, HK⟩
          case measure => simp [intOf] <;> omega
        · have HK := Lib.hid (HN.out hxy)
          replace hq := hq false (decide_eq_false hxy)
          clear HS HN hxy
          go_wp2_with fail
          (refine wp_region_quiet_lit (by kernel_rfl) (by kernel_rfl) ?_; (repeat (any_goals (first | go_big_quiet_step (fail) | quiet_step (fail) | (refine wpQuiet_step (fun K hK => ?_); go_simp; split <;> (refine hK _ ?_; clear hK K))))); all_goals (refine wpQuiet_nil ?_; intro _ hw'; obtain ⟨nq, hw''⟩ := hw'; subst hw''))
          go_wp2_with fail
          go_ret
          exact ⟨ret_b HK.out.symm, Below.drewN hbr _⟩
      · have HK : Hid (decide (a = b) = true) := Lib.hid (by
          have h1 := HE.out
          rw [List.take_of_length_le (by omega), List.take_of_length_le (by rw [← HB.out]; omega)] at h1
          exact decide_eq_true h1)
        go_wp2_with fail
        go_ret
        exact ⟨ret_b HK.out.symm, hbr⟩
  · have hd : ((a.length : Int) != (b.length : Int)) = true := by simp; omega
    have hf : decide (a = b) = false := by rw [decide_eq_false_iff_not]; intro e; subst e; exact hne rfl
    have HF := Lib.hid hf
    clear hf
    go_enter Tryd.func12, Tryd.ntmps12
    go_wp2
    go_ret
    exact ⟨ret_b HF.out.symm, Below.refl _ _⟩
/-! ### A short journal -/
theorem tot_lt (l : List Ent) (h : ∀ x ∈ l, entO x) (hl : l.length ≤ 600) : totT l ≤ 600 * maxLen := Nat.le_trans (totT_bound l fun x hx => (h x hx).2.1) (Nat.mul_le_mul_right _ hl)
set_option maxHeartbeats 1000000 in
/-- For short texts: the exact answer; else: no, or whatever. -/
theorem few_any (l : List Ent) (A : Option Addr) (cap : Nat) (w : World) (hr : RdS cE w (Lt w) A l) (hl : l.length ≤ maxLen) (hf : ∀ x ∈ l, x.text.length ≤ 140737488351232) :
    Calls Tryd.prog 8 #[.slice A l.length cap] w fun e w' => e = .returned (.bool (fewB l)) ∧ Below w.heap.size w w' := by
  unfold maxLen at hl
  go_enter Tryd.func8, Tryd.ntmps8
  go_wp2
  go_loopw [3, 8] (fun n i wr => ∃ (k : Nat) (m : Int), k ≤ l.length ∧ i = .int .i64 k ∧ n = .int .i64 m ∧ I64n m ∧ (l.length ≤ 600 → m = totT (l.take k)) ∧ Below w.heap.size w wr) (fun _ i _ => (l.length - intOf i).toNat)
  case atStart => exact ⟨0, 0, Nat.zero_le _, rfl, rfl, ⟨by omega, by omega⟩, fun _ => rfl, Below.refl _ _⟩
  case round =>
    obtain ⟨k, m, hk, rfl, rfl, hm, hmt, hbr⟩ := hrel
    unfold I64n at hm
    by_cases hlt : k < l.length
    · obtain ⟨b1, o1, rfl, l1, _, x0, x1, x2⟩ := ent_at (hr.now hbr) hlt
      have hx := hf l[k] (List.getElem_mem hlt)
      have HT : Hid (l.length ≤ 600 → wrap64 (m + l[k].text.length) = totT (l.take (k + 1))) := Lib.hid (fun h6 => by
        have e := hmt h6
        have h2 := totT_bound (l.take k) (fun y hy => hf y (List.mem_of_mem_take hy))
        rw [List.length_take, Nat.min_eq_left (by omega)] at h2
        have h3 : k * 140737488351232 ≤ 600 * 140737488351232 := Nat.mul_le_mul_right _ (by omega)
        rw [List.take_succ_eq_append_getElem hlt, totT_snoc, e]
        unfold wrap64
        omega)
      generalize l[k] = x at x0 x1 x2 hx HT
      clear hmt
      have hw : I64n (wrap64 (m + x.text.length)) := by unfold I64n wrap64; omega
      go_wp2
      go_roundw
      case rel => exact ⟨k + 1, _, by omega, by go_num, rfl, hw, HT.out, hbr.alloc hbr.size _⟩
      case measure => simp [intOf] <;> omega
    · have hk' : k = l.length := by omega
      subst hk'
      rw [List.take_length] at hmt
      by_cases h6 : l.length ≤ 600
      · have hm' := hmt h6
        have HF : Hid (fewB l = decide (totT l ≤ 40000)) := Lib.hid (by unfold fewB; rw [decide_eq_true h6, Bool.true_and])
        clear hmt
        generalize totT l = n at hm' HF
        subst hm'
        go_wp2
        go_ret
        refine ⟨ret_b ?_, hbr⟩
        rw [HF.out, Bool.eq_iff_iff]
        simp only [Bool.and_eq_true, decide_eq_true_eq]
        omega
      · have HF : Hid (fewB l = false) := Lib.hid (by unfold fewB; rw [decide_eq_false h6, Bool.false_and])
        clear hmt
        go_wp2
        go_ret
        exact ⟨ret_b HF.out.symm, hbr⟩
end Go.Proofs.YtnckainiphlndaaDoor
