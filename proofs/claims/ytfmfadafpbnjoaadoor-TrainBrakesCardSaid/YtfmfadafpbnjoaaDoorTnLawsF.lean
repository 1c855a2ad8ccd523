/- The walk of the law TrainBrakes. -/
import Derived.Test.YtfmfadafpbnjoaaDoorTnLawsE
namespace Go.Proofs.YtfmfadafpbnjoaaDoor
set_option linter.unusedVariables false
set_option linter.unusedSimpArgs false
open Go.RowKit
attribute [local go_sem] bs_size bs_get bs_append bs_extract bs_toList
def SB (p : List Sgm) (a b : Int) (k : Nat) : Bool := (p.take k).any (touB a b)
theorem SB_succ {p : List Sgm} {a b : Int} {k : Nat} (hk : k < p.length) : SB p a b (k + 1) = (SB p a b k || touB a b p[k]) := by
  unfold SB
  rw [List.take_succ_eq_append_getElem hk, List.any_append]
  simp
theorem SB_end {p : List Sgm} {a b : Int} {k : Nat} (hk : ¬ k < p.length) : p.any (touB a b) = SB p a b k := by
  unfold SB
  rw [List.take_of_length_le (by omega)]
theorem touch3 (f u : Int) (x : Sgm) : (x.fr ≤ u ∧ f ≤ x.to ∧ touB f u x = true) ∨ (u < x.fr ∧ touB f u x = false) ∨ (x.fr ≤ u ∧ x.to < f ∧ touB f u x = false) := by
  by_cases h1 : x.fr ≤ u
  · by_cases h2 : f ≤ x.to
    · exact .inl ⟨h1, h2, by simp [touB, h1, h2]⟩
    · exact .inr (.inr ⟨h1, by omega, by simp [touB, h2]⟩)
  · exact .inr (.inl ⟨by omega, by simp [touB, h1]⟩)
theorem profC {p : List Sgm} {b : Bool} (h : profB p = b) (A : Option Addr) (cap : Nat) (w : World) (hr : RdS cG w (Lt w) A p) (hl : p.length ≤ maxLen) :
    Calls Tryd.prog 20 #[.slice A p.length cap] w fun e w' => e = .returned (.bool b) ∧ Below w.heap.size w w' := h ▸ profiled_any p A cap w hr hl
theorem weakC {t : Trn} {p : List Sgm} {f u v : Int} (h : weakF t p f u = v) (A : Option Addr) (cap : Nat) (w : World) (hr : RdS cG w (Lt w) A p) (hl : p.length ≤ maxLen) :
    Calls Tryd.prog 16 #[trnA t, .slice A p.length cap, .int .i64 f, .int .i64 u] w fun e w' => e = .returned (.int .i64 v) ∧ Below w.heap.size w w' := h ▸ weakest_any t p A cap f u w hr hl
set_option maxRecDepth 100000 in
set_option maxHeartbeats 8000000 in
theorem trainBrakes_walk (t : Trn) (p : List Sgm) (A : Option Addr) (cap : Nat) (f u a b : Int) (w : World) (E : EnvR w) (ht : trnO t) (hr : RdS cG w (Lt w) A p) (ho : p.length ≤ maxLen ∧ p.length ≤ cap) (hf : I64n f) (hu : I64n u) (ha : I64n a) (hb : I64n b) : Calls Tryd.prog 6 #[trnA t, .slice A p.length cap, .int .i64 f, .int .i64 u, .int .i64 a, .int .i64 b] w (True1 w) := by
  have hn := ht.2
  have hts := TS.new w t w.heap.size rfl
  obtain ⟨hl, hcap⟩ := ho
  have hli : (p.length : Int) ≤ 9223372036854775807 := by unfold maxLen at hl; omega
  by_cases h2 : 200 < p.length
  · unfold trnA
    go_enter Tryd.func6, Tryd.ntmps6
    go_wp2_with fail
    refine (talive_any _ (E.now hts.bel)).mono ?_
    rintro e w2 ⟨rfl, hb2⟩
    go_wp2_with fail
    go_ret
    exact ⟨rfl, (hts.now hb2).bel⟩
  · have hl2 : p.length ≤ 200 := by omega
    have hl3 : ¬ (200 : Int) < (p.length : Int) := by omega
    obtain ⟨c, hc⟩ : ∃ c, chkF t = c := ⟨_, rfl⟩
    have HC := Lib.hid fun (W : World) => rcheckC hc W hn
    by_cases hc0 : c = 0
    · subst hc0
      by_cases hft : u < f
      · clear hc ht hr
        unfold trnA at HC ⊢
        go_enter Tryd.func6, Tryd.ntmps6
        go_wp2_with fail
        refine (HC.out _).mono ?_
        rintro e w2 ⟨rfl, hb2⟩
        have hts2 := hts.now hb2
        go_wp2_with fail
        refine (talive_any _ (E.now hts2.bel)).mono ?_
        rintro e w3 ⟨rfl, hb3⟩
        go_wp2_with fail
        go_ret
        exact ⟨rfl, (hts2.now hb3).bel⟩
      · have hm1 := MS.of hts (hr.now ((Below.refl _ _).alloc (Nat.le_refl _) _))
        obtain ⟨v, hv⟩ : ∃ v, weakF t p f u = v := ⟨_, rfl⟩
        obtain ⟨v2, hv2⟩ : ∃ v2, weakF t p a b = v2 := ⟨_, rfl⟩
        obtain ⟨q, hq⟩ : ∃ q, profB p = q := ⟨_, rfl⟩
        have HW := Lib.hid fun (W : World) (h : RdS cG W (Lt W) A p) => weakC hv A cap W h hl
        have HV := Lib.hid fun (W : World) (h : RdS cG W (Lt W) A p) => weakC hv2 A cap W h hl
        have HP := Lib.hid fun (W : World) (h : RdS cG W (Lt W) A p) => profC hq A cap W h hl
        have HQ : Hid (q = true → 0 ≤ v ∧ (∀ x ∈ p, touB f u x = true → v ≤ effF t.emg x.grd) ∧ (f ≤ a → b ≤ u → p.any (touB a b) = true → v ≤ v2)) := Lib.hid (by
          rintro rfl
          have hvb : validB p = true := by unfold profB at hq; rw [Bool.and_eq_true] at hq; exact hq.1
          subst hv hv2
          unfold weakF
          refine ⟨effF_nn _ _, fun x hx hxt => effF_mono (steep_le hvb hx hxt), fun h1 h3 h4 => effF_mono (steep_sub hvb h1 h3 ?_)⟩
          simpa using h4)
        clear hv hv2 hq hc ht hr hts
        unfold trnA at HC HW HV ⊢
        go_enter Tryd.func6, Tryd.ntmps6
        go_wp2_with fail
        refine (HC.out _).mono ?_
        rintro e w2 ⟨rfl, hb2⟩
        have hm2 := hm1.now hb2
        clear hm1 hb2
        generalize hgg : w.heap.size = g at hm2
        obtain ⟨c0, c1, c2, c3, c4, c5, c6, c7, c8, c9, hmi⟩ := id hm2
        go_wp2_with fail
        refine (HW.out _ hmi.2.2).mono ?_
        rintro e w3 ⟨rfl, hb3⟩
        have hm3 := hm2.now hb3
        clear c0 c1 c2 c3 c4 c5 c6 c7 c8 c9 hmi hm2 hb3
        go_wp2_with fail
        refine (HP.out _ (msi hm3).2.2).mono ?_
        rintro e w4 ⟨rfl, hb4⟩
        have hm4 := hm3.now hb4
        clear hm3 hb4
        cases q with
        | false =>
          go_wp2_with fail
          refine (talive_any _ (E.now (msi hm4).1)).mono ?_
          rintro e w5 ⟨rfl, hb5⟩
          go_wp2_with fail
          go_ret
          exact ⟨rfl, (msi (hm4.now hb5)).1⟩
        | true =>
          obtain ⟨hv0, HD0, HE0⟩ := HQ.out rfl
          have HD := Lib.hid HD0
          have HE := Lib.hid HE0
          clear HD0 HE0 HQ
          go_wp2_with fail
          go_loopw [14, 42] (fun sm i wr => ∃ (k : Nat) (s : Bool), k ≤ p.length ∧ sm = .bool s ∧ i = .int .i64 k ∧ MS w g t A p wr ∧ Hid (SB p a b k = s)) (fun _ i _ => p.length - (intOf i).toNat)
          case atStart => exact ⟨0, false, Nat.zero_le _, rfl, rfl, hm4, Lib.hid rfl⟩
          case round =>
            obtain ⟨k, s, hk, rfl, rfl, hmr, HK⟩ := hrel
            by_cases hlt : k < p.length
            · have hki : (k : Int) < (p.length : Int) := by omega
              obtain ⟨b1, o1, hA, l1, hso, x0, x1, x2, x3⟩ := (msi hmr).2.2.el4 hlt
              have hma := hmr.now ((Below.refl _ _).alloc (Nat.le_refl _) (.cells (sgmV p[k]).toArray 39))
              have HX := Lib.hid (HD.out _ (List.getElem_mem hlt))
              have HS := Lib.hid (SB_succ (a := a) (b := b) hlt)
              rw [HK.out] at HS
              clear hso
              subst hA
              generalize p[k] = x at *
              have c6 : (wr.alloc (.cells #[.int .i64 x.fr, .int .i64 x.to, .int .i64 x.grd, .int .i64 x.spd] 39)).cell? ⟨g, 6, none⟩ = some (.int .i64 t.emg) := hma.2.2.2.2.2.2.1
              have hsz := Nat.lt_irrefl 0
              clear HK hmr HD HE HC HW HV HP hm4
              have HN1 : ∀ y, touB a b x = y → Hid (SB p a b (k + 1) = (s || y)) := fun y hy => Lib.hid (by rw [HS.out, hy])
              rcases touch3 f u x with ⟨t1, t2, t3⟩ | ⟨t1, t3⟩ | ⟨t1, t2, t3⟩
              all_goals (rcases touch3 a b x with ⟨r1, r2, r3⟩ | ⟨r1, r3⟩ | ⟨r1, r2, r3⟩)
              all_goals (have HN := HN1 _ r3)
              all_goals (try (have hx := HX.out t3; have hx2 : ¬ effF t.emg x.grd < v := by omega))
              all_goals (clear HN1 HX HS t3 r3)
              all_goals (cases s)
              all_goals (go_wp2_with (first | (go_at_call 21; refine (effective_any _ _ _).mono ?_; rintro e wq ⟨rfl, rfl⟩)))
              all_goals go_roundw
              case rel => exact ⟨k + 1, _, by omega, congrArg Value.bool HN.out.symm, by go_num, hma, Lib.hid rfl⟩
              all_goals first
                | exact ⟨k + 1, _, by omega, congrArg Value.bool HN.out.symm, by go_num, hma, Lib.hid rfl⟩
                | (refine ⟨k + 1, _, by omega, (congrArg Value.bool (Eq.trans ?_ HN.out.symm)), by go_num, hma, Lib.hid rfl⟩; first | (simp; done) | (simp; omega) | (rw [Bool.eq_iff_iff]; simp; omega) | (simp_all; done) | (simp_all; omega))
                | (simp [intOf]; omega)
            · have HF : Hid (f ≤ a → b ≤ u → s = true → v ≤ v2) := Lib.hid (by
                intro h1 h3 h4
                refine HE.out h1 h3 ?_
                rw [SB_end hlt, HK.out, h4])
              clear HK HE HD
              obtain ⟨c0, c1, c2, c3, c4, c5, c6, c7, c8, c9, hmi⟩ := id hmr
              have hcs : a < f ∨ (f ≤ a ∧ b < a) ∨ (f ≤ a ∧ a ≤ b ∧ u < b) ∨ (f ≤ a ∧ a ≤ b ∧ b ≤ u ∧ s = false) ∨ (f ≤ a ∧ a ≤ b ∧ b ≤ u ∧ s = true) := by
                rcases Int.lt_or_le a f with h | h1
                · exact .inl h
                · rcases Int.lt_or_le b a with h | h2
                  · exact .inr (.inl ⟨h1, h⟩)
                  · rcases Int.lt_or_le u b with h | h3
                    · exact .inr (.inr (.inl ⟨h1, h2, h⟩))
                    · cases s with
                      | false => exact .inr (.inr (.inr (.inl ⟨h1, h2, h3, rfl⟩)))
                      | true => exact .inr (.inr (.inr (.inr ⟨h1, h2, h3, rfl⟩)))
              rcases hcs with r1 | ⟨r1, r2⟩ | ⟨r1, r2, r3⟩ | ⟨r1, r2, r3, rfl⟩ | ⟨r1, r2, r3, rfl⟩
              case inr.inr.inr.inr =>
                have hvv := HF.out r1 r3 rfl
                have hvv2 : ¬ v2 < v := by omega
                go_wp2_with fail
                refine (HV.out _ hmi.2.2).mono ?_
                rintro e w6 ⟨rfl, hb6⟩
                have hm6 := hmr.now hb6
                go_wp2_with fail
                refine (talive_any _ (E.now (msi hm6).1)).mono ?_
                rintro e w5 ⟨rfl, hb5⟩
                go_wp2_with fail
                go_ret
                exact ⟨rfl, (msi (hm6.now hb5)).1⟩
              all_goals (
                go_wp2_with fail
                refine (talive_any _ (E.now (msi hmr).1)).mono ?_
                rintro e w5 ⟨rfl, hb5⟩
                go_wp2_with fail
                go_ret
                exact ⟨rfl, (msi (hmr.now hb5)).1⟩)
    · have hcb : (c != 0) = true := by simpa using hc0
      clear hc ht hc0
      unfold trnA at HC ⊢
      go_enter Tryd.func6, Tryd.ntmps6
      go_wp2_with fail
      refine (HC.out _).mono ?_
      rintro e w2 ⟨rfl, hb2⟩
      have hts2 := hts.now hb2
      go_wp2_with fail
      refine (talive_any _ (E.now hts2.bel)).mono ?_
      rintro e w3 ⟨rfl, hb3⟩
      go_wp2_with fail
      go_ret
      exact ⟨rfl, (hts2.now hb3).bel⟩
end Go.Proofs.YtfmfadafpbnjoaaDoor
