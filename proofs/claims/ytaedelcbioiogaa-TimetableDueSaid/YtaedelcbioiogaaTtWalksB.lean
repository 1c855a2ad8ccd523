/- The walks of Need of the reference and of Trip. -/
import Derived.Test.YtaedelcbioiogaaTtWalksA
namespace Go.Proofs.Ytaedelcbioiogaa
set_option linter.unusedVariables false
set_option linter.unusedSimpArgs false
open Go.RowKit
set_option maxHeartbeats 2000000 in
theorem rneed_any (r : Rte) (x : Int × ByteArray × Int × Int × Int × Int × Int × Int) (sp de v : Int) (w : World) (h1 : I64n r.len) (h2 : I64n sp) (h3 : I64n v) (h4 : I64n de) :
    Calls Try.prog 15 #[.agg #[.int .i64 x.1, .string x.2.1, .int .i64 x.2.2.1, .int .i64 sp, .int .i64 x.2.2.2.1, .int .i64 x.2.2.2.2.1, .int .i64 x.2.2.2.2.2.1, .int .i64 de, .int .i64 x.2.2.2.2.2.2.1, .int .i64 x.2.2.2.2.2.2.2], .agg #[.string r.nm, .int .i64 r.entry, .int .i64 r.exit, .slice r.s3.1 r.s3.2.1 r.s3.2.2, .slice r.s4.1 r.s4.2.1 r.s4.2.2, .slice r.s5.1 r.s5.2.1 r.s5.2.2, .int .i64 r.appr, .int .i64 r.len, .slice r.s8.1 r.s8.2.1 r.s8.2.2, .slice r.s9.1 r.s9.2.1 r.s9.2.2, .slice r.s10.1 r.s10.2.1 r.s10.2.2, .slice r.s11.1 r.s11.2.1 r.s11.2.2, .slice r.s12.1 r.s12.2.1 r.s12.2.2, .slice r.s13.1 r.s13.2.1 r.s13.2.2], .int .i64 v] w fun e w' => e = .returned (.int .i64 (needOf sp de r.len v)) ∧ Below w.heap.size w w' := by
  unfold I64n at h1 h2 h3 h4
  by_cases hl : r.len < 1 ∨ sp < 1 ∨ v < 1
  · have hn : needOf sp de r.len v = 0 := by unfold needOf; rw [if_pos (by omega)]
    have HN := Lib.hid hn
    clear hn
    go_enter Try.func15, Try.ntmps15
    go_wp2_with fail
    all_goals try (exfalso; omega)
    all_goals (go_ret; exact ⟨by rw [HN.out]; rfl, by (repeat' (first | (with_reducible exact Below.refl _ _) | (with_reducible assumption) | (with_reducible refine Below.drewN ?_ _) | (with_reducible refine Below.drew ?_) | (with_reducible refine Below.alloc ?_ ?_ _) | (with_reducible refine Below.setCell ?_ ?_ _) | (with_reducible exact Nat.le_refl _) | (with_reducible exact Below.size (by assumption)) | omega | (simp only [World.size_alloc, World.size_setCell, World.size_drew]; omega) | (simp; done) | (simp; omega)))⟩)
  · have hn : needOf sp de r.len v = (min r.len 1073741824 - 1) / (min sp v) + 1 + max 0 (min de 5) := by unfold needOf; rw [if_neg (by omega)]
    have HN := Lib.hid hn
    clear hn
    have l1 : 1 ≤ r.len := by omega
    have l2 : 1 ≤ sp := by omega
    have l3 : 1 ≤ v := by omega
    clear hl
    go_enter Try.func15, Try.ntmps15
    go_wp2_with fail
    all_goals
      (refine wp_region_quiet_lit (by kernel_rfl) (by kernel_rfl) ?_; (repeat (any_goals (first | go_big_quiet_step (fail) | quiet_step (fail) | (refine wpQuiet_step (fun K hK => ?_); go_simp; split <;> (refine hK _ ?_; clear hK K))))); all_goals (refine wpQuiet_nil ?_; intro _ hw'; obtain ⟨nq, hw''⟩ := hw'; subst hw''))
      all_goals
        go_wp2_with fail
      all_goals
        go_ret
        refine ⟨?_, by (repeat' (first | (with_reducible exact Below.refl _ _) | (with_reducible assumption) | (with_reducible refine Below.drewN ?_ _) | (with_reducible refine Below.drew ?_) | (with_reducible refine Below.alloc ?_ ?_ _) | (with_reducible refine Below.setCell ?_ ?_ _) | (with_reducible exact Nat.le_refl _) | (with_reducible exact Below.size (by assumption)) | omega | (simp only [World.size_alloc, World.size_setCell, World.size_drew]; omega) | (simp; done) | (simp; omega)))⟩
        rw [HN.out]
        refine ret_int ?_
        first | rw [show min r.len 1073741824 = 1073741824 by omega] | rw [show min r.len 1073741824 = r.len by omega]
        first | rw [show min sp v = v by omega] | rw [show min sp v = sp by omega]
        first | rw [show max 0 (min de 5) = 5 by omega] | rw [show max 0 (min de 5) = 0 by omega] | rw [show max 0 (min de 5) = de by omega]
        have a1 := Int.ediv_nonneg (show (0 : Int) ≤ 1073741823 by omega) (show 0 ≤ v by omega)
        have a2 := Int.ediv_le_self v (show (0 : Int) ≤ 1073741823 by omega)
        have a3 := Int.ediv_nonneg (show (0 : Int) ≤ 1073741823 by omega) (show 0 ≤ sp by omega)
        have a4 := Int.ediv_le_self sp (show (0 : Int) ≤ 1073741823 by omega)
        have a5 := Int.ediv_nonneg (show 0 ≤ r.len - 1 by omega) (show 0 ≤ v by omega)
        have a6 := Int.ediv_le_self v (show 0 ≤ r.len - 1 by omega)
        have a7 := Int.ediv_nonneg (show 0 ≤ r.len - 1 by omega) (show 0 ≤ sp by omega)
        have a8 := Int.ediv_le_self sp (show 0 ≤ r.len - 1 by omega)
        try simp only [Int.reduceSub]
        unfold wrap64
        omega
/-! ### The trip of a train -/
theorem clo_any (p : Trp) (A : Option Addr) (c : Nat) (k : Int) (tb : Nat) (w : World) (hc : w.cell? ⟨tb, 0, none⟩ = some (.int .i64 k)) (hb : tb < w.heap.size) :
    Calls Try.prog 26 #[.agg #[.int .i64 p.1, .slice A p.2.length c], .pointer (some ⟨tb, 0, none⟩)] w fun e w' => e = .returned (.bool (p.1 == k)) ∧ Below w.heap.size w w' := by
  go_enter Try.func26, Try.ntmps26
  go_wp2_with fail
  go_ret
  exact ⟨rfl, by (repeat' (first | (with_reducible exact Below.refl _ _) | (with_reducible assumption) | (with_reducible refine Below.drewN ?_ _) | (with_reducible refine Below.drew ?_) | (with_reducible refine Below.alloc ?_ ?_ _) | (with_reducible refine Below.setCell ?_ ?_ _) | (with_reducible exact Nat.le_refl _) | (with_reducible exact Below.size (by assumption)) | omega | (simp only [World.size_alloc, World.size_setCell, World.size_drew]; omega) | (simp; done) | (simp; omega)))⟩
set_option maxRecDepth 100000 in
theorem index_any (l : List Trp) (A : Option Addr) (c : Nat) (k : Int) (tb : Nat) (w : World) (hl : l.length ≤ 9223372036854775807) (hA : RdS cTrp w w.heap.size A l) (hc : w.cell? ⟨tb, 0, none⟩ = some (.int .i64 k)) (hb : tb < w.heap.size) :
    Calls Try.prog 25 #[.slice A l.length c, .func (.func 26) #[] #[.pointer (some ⟨tb, 0, none⟩)]] w fun e w' => e = .returned (.int .i64 (tripOf l k)) ∧ Below w.heap.size w w' := by
  go_enter Try.func25, Try.ntmps25
  go_wp2_with fail
  go_loopw [8, 5] (fun i j wr => ∃ k' : Nat, k' ≤ l.length ∧ i = .int .i64 k' ∧ (l.take k').any (fun p => p.1 == k) = false ∧ Below w.heap.size w wr) (fun i _ _ => (l.length - intOf i).toNat)
  case atStart => exact ⟨0, by omega, rfl, rfl, Below.refl _ _⟩
  case round =>
    obtain ⟨n, hk, rfl, htk, hbr⟩ := hrel
    have HK := Lib.hid htk
    clear htk
    have hz := hbr.size
    have hcr := (hbr.cell (p := ⟨tb, 0, none⟩) hb).trans hc
    by_cases hlt : n < l.length
    · obtain ⟨b, off, A', c', rfl, hb1, h1, h2, h3, x0, x1⟩ := trp_at (hA.below hbr) hlt
      have HS := Lib.hid (any_take (fun p : Trp => p.1 == k) hlt)
      have HD := Lib.hid (fun h e => tripOf_some (k := k) hlt h e)
      clear hA
      generalize l[n] = x at h1 h2 h3 x0 x1 HS HD
      have hn : (n : Int) < (l.length : Int) := by omega
      go_wp2_with fail
      refine (clo_any x A' c' k tb _ hcr (by omega)).mono ?_
      rintro e w' ⟨rfl, hb2⟩
      cases he : x.1 == k
      · go_wp2_with fail
        go_roundw
        case rel => exact ⟨n + 1, by omega, by go_num, by rw [HS.out, HK.out, he]; rfl, hbr.trans (hb2.mono hz)⟩
        case measure => simp [intOf] <;> omega
      · go_wp2_with fail
        go_ret
        exact ⟨by rw [HD.out HK.out (by simpa using he)]; rfl, hbr.trans (hb2.mono hz)⟩
    · have HN := Lib.hid (tripOf_none (l := l) (k := k) (by have := HK.out; rwa [List.take_of_length_le (by omega)] at this))
      go_wp2_with fail
      go_ret
      exact ⟨by rw [HN.out]; rfl, hbr⟩
theorem trip_any (l : List Trp) (A : Option Addr) (c : Nat) (k : Int) (R : List Rte) (A' : Option Addr) (c' : Nat) (y z : Sl) (s g : Int) (w : World) (hl : l.length ≤ 9223372036854775807) (hA : RdS cTrp w w.heap.size A l) :
    Calls Try.prog 12 #[.agg #[.slice A' R.length c', .slice y.1 y.2.1 y.2.2, .slice z.1 z.2.1 z.2.2, .int .i64 s, .int .i64 g], .slice A l.length c, .int .i64 k] w fun e w' => e = .returned (.int .i64 (tripOf l k)) ∧ Below w.heap.size w w' := by
  have hmf : ∀ (fn : Fn) (first cap : Array Value) (w : World), (Instr.makeFunc fn first cap).run Try.prog w = .ok (.func fn first cap) w := fun _ _ _ _ => rfl
  go_enter Try.func12, Try.ntmps12
  go_wp2_with fail
  refine (index_any l A c k _ _ hl ((hA.below (((Below.refl _ _).alloc (Nat.le_refl _) _).alloc (by simp) _)).more (by simp; omega)) (by go_simp) (by simp)).mono ?_
  rintro e w' ⟨rfl, hb⟩
  go_wp2_with fail
  go_ret
  exact ⟨rfl, (((Below.refl _ _).alloc (Nat.le_refl _) _).alloc (by simp) _).trans (hb.mono (by simp; omega))⟩
set_option maxRecDepth 100000 in
theorem rtrip_any (l : List Trp) (A : Option Addr) (c : Nat) (k : Int) (R : List Rte) (A' : Option Addr) (c' : Nat) (y z : Sl) (s g : Int) (w : World) (hl : l.length ≤ 9223372036854775807) (hA : RdS cTrp w w.heap.size A l) :
    Calls Try.prog 13 #[.agg #[.slice A' R.length c', .slice y.1 y.2.1 y.2.2, .slice z.1 z.2.1 z.2.2, .int .i64 s, .int .i64 g], .slice A l.length c, .int .i64 k] w fun e w' => e = .returned (.int .i64 (tripOf l k)) ∧ Below w.heap.size w w' := by
  go_enter Try.func13, Try.ntmps13
  go_wp2_with fail
  go_loopw [7] (fun i wr => ∃ k' : Nat, k' ≤ l.length ∧ i = .int .i64 k' ∧ (l.take k').any (fun p => p.1 == k) = false ∧ Below w.heap.size w wr) (fun i _ => (l.length - intOf i).toNat)
  case atStart => exact ⟨0, by omega, rfl, rfl, by (repeat' (first | (with_reducible exact Below.refl _ _) | (with_reducible assumption) | (with_reducible refine Below.drewN ?_ _) | (with_reducible refine Below.drew ?_) | (with_reducible refine Below.alloc ?_ ?_ _) | (with_reducible refine Below.setCell ?_ ?_ _) | (with_reducible exact Nat.le_refl _) | (with_reducible exact Below.size (by assumption)) | omega | (simp only [World.size_alloc, World.size_setCell, World.size_drew]; omega) | (simp; done) | (simp; omega)))⟩
  case round =>
    obtain ⟨n, hk, rfl, htk, hbr⟩ := hrel
    have HK := Lib.hid htk
    clear htk
    have hz := hbr.size
    by_cases hlt : n < l.length
    · obtain ⟨b, off, A', c', rfl, hb1, h1, h2, h3, x0, x1⟩ := trp_at (hA.below hbr) hlt
      have HS := Lib.hid (any_take (fun p : Trp => p.1 == k) hlt)
      have HD := Lib.hid (fun h e => tripOf_some (k := k) hlt h e)
      clear hA
      generalize l[n] = x at h1 h2 h3 x0 x1 HS HD
      have hn : (n : Int) < (l.length : Int) := by omega
      cases he : x.1 == k
      · go_wp2_with fail
        go_roundw
        case rel => exact ⟨n + 1, by omega, by go_num, by rw [HS.out, HK.out, he]; rfl, hbr⟩
        case measure => simp [intOf] <;> omega
      · go_wp2_with fail
        go_ret
        exact ⟨by rw [HD.out HK.out (by simpa using he)]; rfl, hbr⟩
    · have HN := Lib.hid (tripOf_none (l := l) (k := k) (by have := HK.out; rwa [List.take_of_length_le (by omega)] at this))
      go_wp2_with fail
      go_ret
      exact ⟨by rw [HN.out]; rfl, hbr⟩
end Go.Proofs.Ytaedelcbioiogaa
