/- The walk of wire.TakeUint. -/
import Derived.Test.YtlpkkcodmoklaaaWireWalksE
namespace Go.Proofs.Ytlpkkcodmoklaaa
open Go.RowKit
attribute [local go_sem] bs_size bs_get bs_append bs_extract bs_toList
theorem ret3_mid {u z : Value} {x y : Int} (h : x = y) : Ending.returned (.tuple #[u, .int .i64 x, z]) = .returned (.tuple #[u, .int .i64 y, z]) := by rw [h]
theorem takeU_out (l : List UInt8) (at' : Int) (h : at' < 0 ∨ (l.length : Int) < at') : Wire.takeU l at' = (0, 0, 1) := by
  unfold Wire.takeU
  rw [if_pos h]
theorem takeU_in (l : List UInt8) (a : Nat) (h : a ≤ l.length) : Wire.takeU l (a : Int) = if (Wire.scan 0 (l.drop a)).1 = 0 then (Wire.val ((l.drop a).take (Wire.scan 0 (l.drop a)).2), (a : Int) + (Wire.scan 0 (l.drop a)).2, 0) else (0, 0, ((Wire.scan 0 (l.drop a)).1 : Int)) := by
  unfold Wire.takeU
  rw [if_neg (by omega)]
  rfl
theorem numberW_n (p : List UInt8) (g n c : Nat) (w : World) (hn : p.length = n) (hp : n ≤ 100) (hv : Wire.val p < 18446744073709551616) (hcell : ∀ j x, p[j]? = some x → w.cell? ⟨g, j, none⟩ = some (.int .u8 (x.toNat : Int))) :
    Calls Try.prog 70 #[.slice (some ⟨g, 0, none⟩) n c] w fun e w' => e = .returned (.int .u64 (Wire.val p : Nat)) ∧ w = w' := by
  subst hn
  exact numberW_any p g c w hp hv hcell
theorem takeU_stop {l wl : List UInt8} {a : Nat} (ho : Wire.takeU l (a : Int) = if (Wire.scan 0 wl).1 = 0 then (Wire.val ((l.drop a).take (Wire.scan 0 wl).2), (a : Int) + (Wire.scan 0 wl).2, 0) else (0, 0, ((Wire.scan 0 wl).1 : Int)))
    {e : Nat} (he : e ≠ 0) (h : Wire.scan 0 wl = (e, 0)) : Wire.takeU l (a : Int) = (0, 0, (e : Int)) := by
  rw [ho, h, if_neg he]
theorem takeU_last {l wl : List UInt8} {a : Nat} (ho : Wire.takeU l (a : Int) = if (Wire.scan 0 wl).1 = 0 then (Wire.val ((l.drop a).take (Wire.scan 0 wl).2), (a : Int) + (Wire.scan 0 wl).2, 0) else (0, 0, ((Wire.scan 0 wl).1 : Int)))
    (hv : ∀ j, j ≤ 10 → (l.drop a).take j = wl.take j) {k : Nat} (hk : k + 1 ≤ 10) (h : Wire.scan 0 wl = (0, k + 1)) : Wire.takeU l (a : Int) = (Wire.val (wl.take (k + 1)), (a : Int) + k + 1, 0) ∧ Wire.val (wl.take (k + 1)) < 18446744073709551616 := by
  constructor
  · rw [ho, h, if_pos rfl, hv _ hk]
    simp
    omega
  · rcases Wire.scan_exact wl 9 0 _ _ rfl h with ⟨_, _, _, _, _, h5, _⟩ | ⟨h, _⟩ | ⟨h, _⟩
    · rw [Wire.cap9] at h5
      simpa using h5
    · cases h
    · cases h
set_option maxRecDepth 100000 in
set_option maxHeartbeats 2000000 in
theorem takeUint_any (l : List UInt8) (at' : Int) (w : World) (hs : l.length ≤ 140737488351232) (h1 : -9223372036854775808 ≤ at') (h2 : at' ≤ 9223372036854775807) :
    Calls Try.prog 44 #[.string (bs l), .int .i64 at'] w fun e w' => e = .returned (.tuple #[.int .u64 ((Wire.takeU l at').1 : Nat), .int .i64 (Wire.takeU l at').2.1, .int .i64 (Wire.takeU l at').2.2]) ∧ Below w.heap.size w w' := by
  by_cases hneg : at' < 0
  · have ho := takeU_out l at' (Or.inl hneg)
    have HO := Lib.hid ho
    clear ho
    go_enter Try.func44, Try.ntmps44
    go_wp2_with fail
    go_ret3
    exact ⟨by rw [HO.out]; rfl, Below.refl _ _⟩
  · by_cases hbig : (l.length : Int) < at'
    · have ho := takeU_out l at' (Or.inr hbig)
      have HO := Lib.hid ho
      clear ho
      go_enter Try.func44, Try.ntmps44
      go_wp2_with fail
      go_ret3
      exact ⟨by rw [HO.out]; rfl, Below.refl _ _⟩
    · obtain ⟨a, rfl⟩ := Int.eq_ofNat_of_zero_le (show 0 ≤ at' by omega)
      have hal : a ≤ l.length := by omega
      have ho := takeU_in l a hal
      rw [← Wire.scan_take (l.drop a) 0 10 rfl (by omega)] at ho
      have hm : (if (a : Int) + 10 < (l.length : Int) then (a : Int) + 10 else (l.length : Int)) = ((min l.length (a + 10) : Nat) : Int) := by
        split <;> omega
      have hwl : (l.take (min l.length (a + 10))).drop a = (l.drop a).take 10 := by
        rw [List.drop_take]
        rcases Nat.lt_or_ge (a + 10) l.length with h | h
        · congr 1
          omega
        · rw [List.take_of_length_le (by rw [List.length_drop]; omega), List.take_of_length_le (by rw [List.length_drop]; omega)]
      have hm1 : a ≤ min l.length (a + 10) := by omega
      have hm2 : min l.length (a + 10) ≤ l.length := by omega
      generalize min l.length (a + 10) = m at hm hwl hm1 hm2
      have hvt : ∀ j, j ≤ 10 → (l.drop a).take j = ((l.drop a).take 10).take j := fun j hj => by rw [List.take_take]; congr 1; omega
      have hwlen : ((l.drop a).take 10).length ≤ 10 := by rw [List.length_take]; omega
      generalize hwd : (l.drop a).take 10 = wl at ho hwl hvt hwlen
      have HO := Lib.hid ho
      have HV := Lib.hid hvt
      clear ho hvt hwd
      obtain ⟨cap, w1, hcv, hcap, hb1, hsz, hcell, hfr⟩ := bytes_of (P := Try.prog) w wl Try.underlying9 Try.underlying30 Try.underlying5
      have HC := Lib.hid hcell
      clear hcell hfr hsz
      go_enter Try.func44, Try.ntmps44
      go_wp2_with fail
      go_loop [29] (fun i => ∃ k : Nat, k ≤ wl.length ∧ i = .int .i64 k ∧ Wire.scan 0 wl = Wire.scan k (wl.drop k)) (fun i => (wl.length - intOf i).toNat)
      case atStart => exact ⟨0, by omega, rfl, by simp⟩
      case round =>
        obtain ⟨k, hk, rfl, hsc⟩ := hrel
        by_cases hlt : k < wl.length
        · have hc := HC.out k wl[k] (List.getElem?_eq_getElem hlt)
          have hb := wl[k].toNat_lt
          rw [List.drop_eq_getElem_cons hlt] at hsc
          have hcells : ∀ j x, (wl.take (k + 1))[j]? = some x → w1.cell? ⟨w.heap.size, j, none⟩ = some (.int .u8 (x.toNat : Int)) := fun j x hj => by
            rw [List.getElem?_take] at hj
            split at hj
            · exact HC.out j x hj
            · cases hj
          have hpl : (wl.take (k + 1)).length = k + 1 := by rw [List.length_take]; omega
          generalize wl[k] = c at hc hb hsc
          by_cases hstop : (c.toNat = 0 ∧ 0 < k) ∨ (k = 9 ∧ c.toNat ≠ 1)
          · rw [Wire.scan_stop hstop] at hsc
            have hfin := takeU_stop HO.out (by decide) hsc
            have HF := Lib.hid hfin
            clear hfin hsc hcells hpl
            rcases (show (c.toNat < 1 ∧ 0 < k) ∨ (0 < c.toNat ∧ 9 ≤ k ∧ k ≤ 9 ∧ 1 < c.toNat) by omega) with hh | hh
            all_goals
              clear hstop
              go_wp2_with fail
              go_ret3
              exact ⟨by rw [HF.out]; rfl, hb1⟩
          · by_cases hlast : c.toNat < 128
            · rw [Wire.scan_last hstop hlast] at hsc
              have hfin := takeU_last HO.out HV.out (by omega) hsc
              have HF := Lib.hid hfin.1
              have hval := hfin.2
              have HP := Lib.hid hpl
              have HCS := Lib.hid hcells
              clear hfin hsc hcells hpl
              generalize wl.take (k + 1) = p at HF hval HP HCS
              rcases (show (c.toNat < 1 ∧ k < 1) ∨ (0 < c.toNat ∧ k < 9) ∨ (0 < c.toNat ∧ c.toNat < 2 ∧ 9 ≤ k ∧ k < 10) by omega) with hh | hh | hh
              all_goals
                clear hstop
                go_wp2_with fail
                refine (numberW_n p w.heap.size _ _ _ (by have := HP.out; omega) (by omega) hval HCS.out).mono ?_
                rintro e w2 ⟨rfl, rfl⟩
                go_wp2_with fail
                go_ret3
                exact ⟨by rw [HF.out]; refine ret3_mid ?_; show _ = (a : Int) + k + 1; omega, hb1⟩
            · rw [Wire.scan_more hstop hlast] at hsc
              have HS := Lib.hid hsc
              have hk9 : k < 9 := by omega
              have hc128 : 128 ≤ c.toNat := by omega
              clear hsc hcells hpl hstop hlast
              go_wp2_with fail
              go_round
              case rel => exact ⟨k + 1, by omega, by go_num, HS.out⟩
              case measure => simp [intOf] <;> omega
        · rw [List.drop_of_length_le (by omega), Wire.scan_nil] at hsc
          have hfin := takeU_stop HO.out (by decide) hsc
          have HF := Lib.hid hfin
          clear hfin hsc
          go_wp2_with fail
          go_ret3
          exact ⟨by rw [HF.out]; rfl, hb1⟩
end Go.Proofs.Ytlpkkcodmoklaaa
