/- The walks of Print's reference and of the line that it prints. -/
import Derived.Test.YtnckainiphlndaaDoorJnPrint
import Derived.Deep.QuietTactic
import Derived.BigQuiet
namespace Go.Proofs.YtnckainiphlndaaDoor
set_option linter.unusedVariables false
set_option linter.unusedSimpArgs false
open Go.RowKit
attribute [local go_sem] bs_size bs_get bs_append bs_extract bs_toList
theorem bs_sp (l : List UInt8) : bs l ++ { data := #[32] } = bs (l ++ [32]) := bs_append l [32]
theorem bs_lf (l : List UInt8) : bs l ++ { data := #[10] } = bs (l ++ [10]) := bs_append l [10]
theorem ret_s {a b : List UInt8} (h : a = b) : Ending.returned (.string (bs a)) = .returned (.string (bs b)) := by rw [h]
attribute [local go_sem] bs_sp bs_lf
set_option maxRecDepth 100000 in
set_option maxHeartbeats 4000000 in
theorem rline_any (x : Ent) (w : World) (ho : entO x) (hx : okX x) :
    Calls Tryd.prog 31 #[.agg #[.int .i64 x.time, .string (bs x.text), .int .u64 (x.sum : Int)]] w fun e w' => e = .returned (.string (bs (lineE x))) ∧ Below w.heap.size w w' := by
  have hit := itoa_short x.time ho.1
  have hhx := hexL_len x.sum
  have htx := (legB_iff.1 hx.2.1).1.2
  have hf : ∀ W, Calls Tryd.prog 37 #[.int .i64 x.time] W fun e w' => e = .returned (.string (bs (Lib.itoa x.time))) ∧ w' = W := fun W => (rformat_any x.time W ho.1.1 ho.1.2).mono fun _ _ ⟨h, hw⟩ => ⟨h, hw.symm⟩
  have hh : ∀ W, Calls Tryd.prog 40 #[.int .u64 (x.sum : Int)] W fun e w' => e = .returned (.string (bs (Crc.hex x.sum))) ∧ w' = W := fun W => (refHex_any x.sum W ho.2.2).mono fun _ _ ⟨h, hw⟩ => ⟨h, hw.symm⟩
  have HE : Hid (lineE x = Lib.itoa x.time ++ 32 :: (Crc.hex x.sum ++ 32 :: x.text) ++ [10]) := Lib.hid rfl
  generalize Lib.itoa x.time = it at hit hf HE
  generalize Crc.hex x.sum = hx at hhx hh HE
  go_enter Tryd.func31, Tryd.ntmps31
  go_wp2_with fail
  (refine wp_region_quiet_lit (by kernel_rfl) (by kernel_rfl) ?_; (repeat (any_goals (first | go_big_quiet_step ((first | (go_at_call 37; exact Calls.quiet_of_same (hf _)) | (go_at_call 40; exact Calls.quiet_of_same (hh _)))) | quiet_step ((first | (go_at_call 37; exact Calls.quiet_of_same (hf _)) | (go_at_call 40; exact Calls.quiet_of_same (hh _)))) | (refine wpQuiet_step (fun K hK => ?_); go_simp; split <;> (refine hK _ ?_; clear hK K))))); all_goals (refine wpQuiet_nil ?_; intro _ hw'; obtain ⟨nq, hw''⟩ := hw'; subst hw''))
  go_wp2_with fail
  all_goals (go_ret; exact ⟨ret_s (by rw [HE.out]; simp), Below.drewN ((Below.refl _ _).alloc (Nat.le_refl _) _) _⟩)
set_option maxRecDepth 100000 in
set_option maxHeartbeats 8000000 in
theorem rprint_any (l : List Ent) (A : Option Addr) (cap : Nat) (w : World) (E : Env w) (hr : RdS cE w (Lt w) A l) (hl : l.length ≤ maxLen) (hcap : l.length ≤ cap) :
    Calls Tryd.prog 17 #[.slice A l.length cap] w fun e w' => e = .returned (.tuple #[.string (bs (prtF l).1), .int .i64 (prtF l).2]) ∧ Below w.heap.size w w' := by
  by_cases hv : verF l = -1
  · have HP := Lib.hid (prtF_ok hv)
    have HTL := Lib.hid fun k => textJ_take_len hv k
    have hl5 := verF_len hv
    have HOK := Lib.hid (verG_ok l 0 0 0 hv)
    go_enter Tryd.func17, Tryd.ntmps17
    go_wp2_with fail
    refine (rverifyD hv A cap w E hr hl hcap).mono ?_
    rintro e w1 ⟨rfl, hb1⟩
    have hr1 := hr.now hb1
    clear hr hl hv
    have hz1 := hb1.size
    go_wp2_with fail
    go_loopw [4, 12] (fun s i wr => ∃ k : Nat, k ≤ l.length ∧ i = .int .i64 k ∧ s = .string (bs (textJ (l.take k))) ∧ Below w1.heap.size w1 wr) (fun _ i _ => l.length - (intOf i).toNat)
    case atStart => exact ⟨0, Nat.zero_le _, rfl, rfl, Below.refl _ _⟩
    case round =>
      obtain ⟨k, hk, rfl, rfl, hbq⟩ := hrel
      by_cases hlt : k < l.length
      · obtain ⟨b1, o1, rfl, l1, hxo, x0, x1, x2⟩ := ent_at (hr1.now hbq) hlt
        have HT := Lib.hid (textJ_at hlt)
        have hx := HOK.out l[k] (List.getElem_mem hlt)
        have hpl := HTL.out k
        generalize l[k] = x at hxo x0 x1 x2 HT hx
        generalize textJ (l.take k) = pre at HT hpl
        have hll := okX_line hx
        have hki : (k : Int) < (l.length : Int) := by omega
        have hln := fun W => rline_any x W hxo hx
        generalize lineE x = ln at hll hln HT
        have hba := (Below.refl wr.heap.size wr).alloc (Nat.le_refl _) (.cells #[.int .i64 x.time, .string (bs x.text), .int .u64 (x.sum : Int)] 37)
        have hz := hbq.size
        clear hx hxo
        go_wp2_with fail
        refine (hln _).mono ?_
        rintro e w2 ⟨rfl, hb2⟩
        have hB2 := bel_then (bel_then hbq hz hba) (Nat.le_trans hz hba.size) hb2
        go_wp2_with fail
        go_roundw
        case rel => exact ⟨k + 1, by omega, by go_num, by rw [HT.out], hB2⟩
        case measure => simp [intOf]; omega
      · obtain rfl : k = l.length := by omega
        have HTK : Hid (textJ (l.take l.length) = textJ l) := Lib.hid (by rw [List.take_length])
        go_wp2_with fail
        go_ret2
        exact ⟨by rw [HP.out]; first | rfl | (rw [← HTK.out]; rfl), bel_then hb1 hz1 hbq⟩
  · have HP := Lib.hid (prtF_bad hv)
    rcases verF_cases l with h | ⟨h1, h2⟩
    · exact absurd h hv
    · obtain ⟨n, hn⟩ : ∃ n, verF l = n := ⟨_, rfl⟩
      have HN := Lib.hid hn
      rw [hn] at h1
      clear h2 hv hn
      go_enter Tryd.func17, Tryd.ntmps17
      go_wp2_with fail
      refine (rverifyD HN.out A cap w E hr hl hcap).mono ?_
      rintro e w1 ⟨rfl, hb1⟩
      go_wp2_with fail
      go_ret2
      exact ⟨by rw [HP.out]; rfl, hb1⟩
end Go.Proofs.YtnckainiphlndaaDoor
