/- The walks of Verify and of its reference. -/
import Derived.Test.YtnckainiphlndaaDoorJnWalksB
import Derived.Deep.RegionHeld3
import Derived.Deep.Cut
namespace Go.Proofs.YtnckainiphlndaaDoor
set_option linter.unusedVariables false
set_option linter.unusedSimpArgs false
open Go.RowKit
attribute [local go_sem] bs_size bs_get bs_append bs_extract bs_toList
/-- What holds while an entry is looked at, whose copy lies in block g; b: the row's block. -/
def VI (w0 : World) (A : Option Addr) (l : List Ent) (g b : Nat) (w : World) : Prop := RdS cE w (Lt w) A l ∧ Below w0.heap.size w0 w ∧ Env w ∧ g < w.heap.size ∧ b < w.heap.size
theorem VI.now {w0 w w' : World} {A : Option Addr} {l : List Ent} {g b : Nat} (h : VI w0 A l g b w) (hb : Below w.heap.size w w') : VI w0 A l g b w' := by
  obtain ⟨h1, h2, h3, h4, h5⟩ := h
  exact ⟨h1.now hb, h2.trans (hb.mono h2.size), h3.now hb, Nat.lt_of_lt_of_le h4 hb.size, Nat.lt_of_lt_of_le h5 hb.size⟩
/-- .. and its cells. -/
def VS (w0 : World) (A : Option Addr) (l : List Ent) (g b : Nat) (x : Ent) (w' : World) : Prop := w'.cell? ⟨g, 0, none⟩ = some (.int .i64 x.time) ∧ w'.cell? ⟨g, 1, none⟩ = some (.string (bs x.text)) ∧ w'.cell? ⟨g, 2, none⟩ = some (.int .u64 (x.sum : Int)) ∧ VI w0 A l g b w'
theorem VS.now {w0 w w' : World} {A : Option Addr} {l : List Ent} {g b : Nat} {x : Ent} (h : VS w0 A l g b x w) (hb : Below w.heap.size w w') : VS w0 A l g b x w' := by
  obtain ⟨h1, h2, h3, h4⟩ := h
  have hg := h4.2.2.2.1
  exact ⟨(hb.cell (p := ⟨g, 0, none⟩) hg).trans h1, (hb.cell (p := ⟨g, 1, none⟩) hg).trans h2, (hb.cell (p := ⟨g, 2, none⟩) hg).trans h3, h4.now hb⟩
def VS2 (w0 : World) (A : Option Addr) (l : List Ent) (g b q : Nat) (x : Ent) (t : Int) (w' : World) : Prop := w'.cell? ⟨b, q, none⟩ = some (.int .i64 t) ∧ VS w0 A l g b x w'
theorem VS2.now {w0 w w' : World} {A : Option Addr} {l : List Ent} {g b q : Nat} {x : Ent} {t : Int} (h : VS2 w0 A l g b q x t w) (hb : Below w.heap.size w w') : VS2 w0 A l g b q x t w' :=
  ⟨(hb.cell (p := ⟨b, q, none⟩) h.2.2.2.2.2.2.2.2).trans h.1, h.2.now hb⟩
theorem below_drewN {B : Nat} {a w : World} (h : Below B a w) (n : Nat) : Below B a (w.drewN n) := h.trans ⟨rfl, rfl, rfl, Nat.le_refl _, fun _ _ => rfl⟩
theorem vs_drew {w0 w : World} {A : Option Addr} {l : List Ent} {g b : Nat} {x : Ent} (h : VS w0 A l g b x w) : VS w0 A l g b x w.drew := h.now (Below.refl _ _).drew
theorem vs2_drew {w0 w : World} {A : Option Addr} {l : List Ent} {g b q : Nat} {x : Ent} {t : Int} (h : VS2 w0 A l g b q x t w) : VS2 w0 A l g b q x t w.drew := h.now (Below.refl _ _).drew
theorem vs_new {w0 w : World} {A : Option Addr} {l : List Ent} {b : Nat} (x : Ent) (T : TypeId) (hr : RdS cE w (Lt w) A l) (hb : Below w0.heap.size w0 w) (E : Env w) (hl : b < w.heap.size) : VS w0 A l w.heap.size b x (w.alloc (.cells #[.int .i64 x.time, .string (bs x.text), .int .u64 (x.sum : Int)] T)) := by
  have hbl : Below w.heap.size w (w.alloc (.cells #[.int .i64 x.time, .string (bs x.text), .int .u64 (x.sum : Int)] T)) := (Below.refl _ _).alloc (Nat.le_refl _) _
  refine ⟨?_, ?_, ?_, hr.now hbl, hb.trans (hbl.mono hb.size), E.now hbl, by simp, by simp; omega⟩ <;> (rw [World.cell?_alloc_at _ _ _ _ rfl]; rfl)
theorem sumC {l : List Ent} {k n : Nat} (hk : k ≤ l.length) (h : sumF (l.take k) = n) (A : Option Addr) (cap : Nat) (w : World) (hr : RdS cE w (Lt w) A l) (hl : l.length ≤ maxLen) :
    Calls Tryd.prog 18 #[.slice A k cap] w fun e w' => e = .returned (.int .u64 (n : Nat)) ∧ w = w' := by
  have := sum_any (l.take k) A cap w (hr.take k) (by rw [List.length_take]; omega)
  rw [List.length_take, Nat.min_eq_left hk, h] at this
  exact this
theorem rsumC {l : List Ent} {k n : Nat} (hk : k ≤ l.length) (h : sumF (l.take k) = n) (A : Option Addr) (cap : Nat) (w : World) (hr : RdS cE w (Lt w) A l) (hl : l.length ≤ maxLen) :
    Calls Tryd.prog 19 #[.slice A k cap] w fun e w' => e = .returned (.int .u64 (n : Nat)) ∧ w = w' := by
  have := rsum_any (l.take k) A cap w (hr.take k) (by rw [List.length_take]; omega)
  rw [List.length_take, Nat.min_eq_left hk, h] at this
  exact this
/-- What stands at a place that does not fit. -/
theorem ver_bad {l : List Ent} {k : Nat} (h : k < l.length) (hv : verF l = verG k (lastT (l.take k)) (sumF (l.take k)) (l.drop k)) (hg : goodE k (lastT (l.take k)) (sumF (l.take k)) l[k] = false) : verF l = k := by
  rw [hv, verG_at l k h, hg]; rfl
theorem ver_ok {l : List Ent} {k : Nat} (h : k < l.length) (hv : verF l = verG k (lastT (l.take k)) (sumF (l.take k)) (l.drop k)) (hg : goodE k (lastT (l.take k)) (sumF (l.take k)) l[k] = true) : verF l = verG (k + 1) (lastT (l.take (k + 1))) (sumF (l.take (k + 1))) (l.drop (k + 1)) := by
  rw [hv, verG_at l k h, hg]; rfl
theorem ver_end {l : List Ent} {k : Nat} (h : ¬ k < l.length) (hv : verF l = verG k (lastT (l.take k)) (sumF (l.take k)) (l.drop k)) : verF l = -1 := by
  rw [hv, List.drop_of_length_le (by omega)]; rfl
/-- The ways a test goes. -/
theorem good_cases (k : Nat) (pt : Int) (ps : Nat) (x : Ent) : (goodE k pt ps x = false ∧ k = 512) ∨ (goodE k pt ps x = false ∧ k ≠ 512 ∧ tmB x.time = false) ∨ (goodE k pt ps x = false ∧ k ≠ 512 ∧ tmB x.time = true ∧ x.time < pt) ∨
    (goodE k pt ps x = false ∧ k ≠ 512 ∧ tmB x.time = true ∧ ¬ x.time < pt ∧ legB x.text = false) ∨ (goodE k pt ps x = false ∧ k ≠ 512 ∧ tmB x.time = true ∧ ¬ x.time < pt ∧ legB x.text = true ∧ x.sum ≠ dgst ps x.time x.text) ∨
    (goodE k pt ps x = true ∧ k ≠ 512 ∧ tmB x.time = true ∧ ¬ x.time < pt ∧ legB x.text = true ∧ x.sum = dgst ps x.time x.text) := by
  by_cases h1 : k = 512
  · exact .inl ⟨by unfold goodE; simp [h1], h1⟩
  · cases h2 : tmB x.time with
    | false => exact .inr (.inl ⟨by unfold goodE; simp [h2], h1, rfl⟩)
    | true =>
      by_cases h3 : x.time < pt
      · exact .inr (.inr (.inl ⟨by unfold goodE; rw [decide_eq_false (by omega : ¬ pt ≤ x.time)]; simp, h1, rfl, h3⟩))
      · cases h4 : legB x.text with
        | false => exact .inr (.inr (.inr (.inl ⟨by unfold goodE; simp [h4], h1, rfl, h3, rfl⟩)))
        | true =>
          by_cases h5 : x.sum = dgst ps x.time x.text
          · exact .inr (.inr (.inr (.inr (.inr ⟨goodE_iff.2 ⟨⟨h1, h2, by omega⟩, h4, h5⟩, h1, rfl, h3, rfl, h5⟩))))
          · exact .inr (.inr (.inr (.inr (.inl ⟨by unfold goodE; rw [decide_eq_false h5]; simp, h1, rfl, h3, rfl, h5⟩))))
theorem v1i {w0 w : World} {A : Option Addr} {l : List Ent} {g b : Nat} {x : Ent} (h : VS w0 A l g b x w) : VI w0 A l g b w := h.2.2.2
theorem v2i {w0 w : World} {A : Option Addr} {l : List Ent} {g b q : Nat} {x : Ent} {t : Int} (h : VS2 w0 A l g b q x t w) : VI w0 A l g b w := h.2.2.2.2
set_option maxRecDepth 100000 in
set_option maxHeartbeats 16000000 in
theorem verify_any (l : List Ent) (A : Option Addr) (cap : Nat) (w : World) (E : Env w) (hr : RdS cE w (Lt w) A l) (hl : l.length ≤ maxLen) (hcap : l.length ≤ cap) :
    Calls Tryd.prog 14 #[.slice A l.length cap] w fun e w' => e = .returned (.int .i64 (verF l)) ∧ Below w.heap.size w w' := by
  have hl2 := hl
  unfold maxLen at hl2
  go_enter Tryd.func14, Tryd.ntmps14
  go_wp2
  go_loopw [7] (fun i wr => ∃ k : Nat, k ≤ l.length ∧ i = .int .i64 k ∧ Below w.heap.size w wr ∧ Hid (verF l = verG k (lastT (l.take k)) (sumF (l.take k)) (l.drop k))) (fun i _ => (l.length - intOf i).toNat)
  case atStart => exact ⟨0, Nat.zero_le _, rfl, Below.refl _ _, Lib.hid rfl⟩
  case round =>
    obtain ⟨k, hk, rfl, hbr, HV⟩ := hrel
    have hsz := hbr.size
    by_cases hlt : k < l.length
    · have hrw := hr.now hbr
      obtain ⟨b, off, hA, hbl, hxo, x0, x1, x2⟩ := ent_at hrw hlt
      subst hA
      have hgc := good_cases k (lastT (l.take k)) (sumF (l.take k)) l[k]
      have HB : Hid (goodE k (lastT (l.take k)) (sumF (l.take k)) l[k] = false → verF l = k) := Lib.hid (ver_bad hlt HV.out)
      have HK := Lib.hid (ver_ok hlt HV.out)
      have HK : Hid (goodE k (lastT (l.take k)) (sumF (l.take k)) l[k] = true → Hid (verF l = verG (k + 1) (lastT (l.take (k + 1))) (sumF (l.take (k + 1))) (l.drop (k + 1)))) := Lib.hid fun h => Lib.hid (HK.out h)
      have hkl : k ≤ l.length := hk
      have hsm : sumF (l.take k) < 18446744073709551616 := sumF_lt fun x hx => ent_all hr x (List.mem_of_mem_take hx)
      obtain ⟨sm, hsmE⟩ : ∃ n, sumF (l.take k) = n := ⟨_, rfl⟩
      rw [hsmE] at hgc HB HK hsm
      have HSM := Lib.hid hsmE
      clear hsmE
      clear HV
      rcases k with _ | p
      · have hlp : lastT (l.take 0) = 0 := rfl
        rw [hlp] at hgc HB HK
        clear hlp
        have hp2 : (0 : Int) < (l.length : Int) := by omega
        have hc2 : (0 : Int) ≤ (cap : Int) := by omega
        generalize l[0] = x at hgc HB HK hxo x0 x1 x2
        simp only [Nat.zero_mul, Nat.add_zero] at x0 x1 x2
        rcases hgc with ⟨hg, h512⟩ | ⟨hg, h512, htm⟩ | ⟨hg, h512, htm, hord⟩ | ⟨hg, h512, htm, hord, hlg⟩ | ⟨hg, h512, htm, hord, hlg, hsum⟩ | ⟨hg, h512, htm, hord, hlg, hsum⟩
        · exact absurd h512 (by decide)
        · have HR := Lib.hid (HB.out hg)
          have HTM := Lib.hid htm
          clear HB HK hg htm
          go_wp2_with fail
          have hvs := vs_new (A := some ⟨b, off, none⟩) (l := l) (b := b) x 37 hrw hbr (E.now hbr) hbl
          clear hrw x0 x1 x2
          generalize wr.alloc (.cells #[.int .i64 x.time, .string (bs x.text), .int .u64 (x.sum : Int)] 37) = w1 at hvs ⊢
          generalize wr.heap.size = g at hvs ⊢
          have hS : w1.cell? ⟨g, 0, none⟩ = some (.int .i64 x.time) ∧ w1.cell? ⟨g, 1, none⟩ = some (.string (bs x.text)) ∧ w1.cell? ⟨g, 2, none⟩ = some (.int .u64 (x.sum : Int)) ∧ VI w (some ⟨b, off, none⟩) l g b w1 := hvs
          clear hvs
          have hT := hS
          obtain ⟨z0, z1, z2, hz9⟩ := hT
          (refine wp_region_quiet_lit (by kernel_rfl) (by kernel_rfl) ?_; (repeat (any_goals (first | go_big_quiet_step ((first | (go_at_call 22; exact Calls.quiet_of_same ((timelyC HTM.out _ hxo.1).mono fun _ _ h => ⟨h.1, h.2.symm⟩)))) | quiet_step ((first | (go_at_call 22; exact Calls.quiet_of_same ((timelyC HTM.out _ hxo.1).mono fun _ _ h => ⟨h.1, h.2.symm⟩)))) | (refine wpQuiet_step (fun K hK => ?_); go_simp; split <;> (refine hK _ ?_; clear hK K))))); all_goals (refine wpQuiet_nil ?_; intro _ hw'; obtain ⟨nq, hw''⟩ := hw'; subst hw''))
          clear z0 z1 z2 hz9
          have hT : (w1.drewN nq).cell? ⟨g, 0, none⟩ = some (.int .i64 x.time) ∧ (w1.drewN nq).cell? ⟨g, 1, none⟩ = some (.string (bs x.text)) ∧ (w1.drewN nq).cell? ⟨g, 2, none⟩ = some (.int .u64 (x.sum : Int)) ∧ VI w (some ⟨b, off, none⟩) l g b (w1.drewN nq) := VS.now hS (below_drewN (Below.refl _ _) nq)
          clear hS
          generalize w1.drewN nq = w2 at hT ⊢
          have hS := hT
          clear hT
          go_wp2_with fail
          all_goals (go_ret; exact ⟨ret_int (by have h := HR.out; omega), (v1i (by assumption)).2.1⟩)
        · exfalso; have := tmB_iff.1 htm; omega
        · have HR := Lib.hid (HB.out hg)
          have HTM := Lib.hid htm
          have HLG := Lib.hid hlg
          clear HB HK hg htm hlg
          go_wp2_with fail
          have hvs := vs_new (A := some ⟨b, off, none⟩) (l := l) (b := b) x 37 hrw hbr (E.now hbr) hbl
          clear hrw x0 x1 x2
          generalize wr.alloc (.cells #[.int .i64 x.time, .string (bs x.text), .int .u64 (x.sum : Int)] 37) = w1 at hvs ⊢
          generalize wr.heap.size = g at hvs ⊢
          have hS : w1.cell? ⟨g, 0, none⟩ = some (.int .i64 x.time) ∧ w1.cell? ⟨g, 1, none⟩ = some (.string (bs x.text)) ∧ w1.cell? ⟨g, 2, none⟩ = some (.int .u64 (x.sum : Int)) ∧ VI w (some ⟨b, off, none⟩) l g b w1 := hvs
          clear hvs
          have hT := hS
          obtain ⟨z0, z1, z2, hz9⟩ := hT
          (refine wp_region_quiet_lit (by kernel_rfl) (by kernel_rfl) ?_; (repeat (any_goals (first | go_big_quiet_step ((first | (go_at_call 22; exact Calls.quiet_of_same ((timelyC HTM.out _ hxo.1).mono fun _ _ h => ⟨h.1, h.2.symm⟩)))) | quiet_step ((first | (go_at_call 22; exact Calls.quiet_of_same ((timelyC HTM.out _ hxo.1).mono fun _ _ h => ⟨h.1, h.2.symm⟩)))) | (refine wpQuiet_step (fun K hK => ?_); go_simp; split <;> (refine hK _ ?_; clear hK K))))); all_goals (refine wpQuiet_nil ?_; intro _ hw'; obtain ⟨nq, hw''⟩ := hw'; subst hw''))
          clear z0 z1 z2 hz9
          have hT : (w1.drewN nq).cell? ⟨g, 0, none⟩ = some (.int .i64 x.time) ∧ (w1.drewN nq).cell? ⟨g, 1, none⟩ = some (.string (bs x.text)) ∧ (w1.drewN nq).cell? ⟨g, 2, none⟩ = some (.int .u64 (x.sum : Int)) ∧ VI w (some ⟨b, off, none⟩) l g b (w1.drewN nq) := VS.now hS (below_drewN (Below.refl _ _) nq)
          clear hS
          generalize w1.drewN nq = w2 at hT ⊢
          have hS := hT
          clear hT
          go_wp2_with fail
          have hT := hS
          obtain ⟨z0, z1, z2, hz9⟩ := hT
          (refine wp_region_quiet_lit (by kernel_rfl) (by kernel_rfl) ?_; (repeat (any_goals (first | go_big_quiet_step ((first | (go_at_call 23; exact Calls.quiet_of_same ((legibleC HLG.out _ hxo.2.1).mono fun _ _ h => ⟨h.1, h.2.symm⟩)))) | quiet_step ((first | (go_at_call 23; exact Calls.quiet_of_same ((legibleC HLG.out _ hxo.2.1).mono fun _ _ h => ⟨h.1, h.2.symm⟩)))) | (refine wpQuiet_step (fun K hK => ?_); go_simp; split <;> (refine hK _ ?_; clear hK K))))); all_goals (refine wpQuiet_nil ?_; intro _ hw'; obtain ⟨nq, hw''⟩ := hw'; subst hw''))
          clear z0 z1 z2 hz9
          have hT : (w2.drewN nq).cell? ⟨g, 0, none⟩ = some (.int .i64 x.time) ∧ (w2.drewN nq).cell? ⟨g, 1, none⟩ = some (.string (bs x.text)) ∧ (w2.drewN nq).cell? ⟨g, 2, none⟩ = some (.int .u64 (x.sum : Int)) ∧ VI w (some ⟨b, off, none⟩) l g b (w2.drewN nq) := VS.now hS (below_drewN (Below.refl _ _) nq)
          clear hS
          generalize w2.drewN nq = w3 at hT ⊢
          have hS := hT
          clear hT
          go_wp2_with fail
          all_goals (go_ret; exact ⟨ret_int (by have h := HR.out; omega), (v1i (by assumption)).2.1⟩)
        · have HR := Lib.hid (HB.out hg)
          have HTM := Lib.hid htm
          have HLG := Lib.hid hlg
          have hxl := (legB_iff.1 hlg).1.2
          have hdg := fun W (E : Env W) => digest_any sm x.time x.text W E hsm hxo.1 (by omega)
          generalize dgst sm x.time x.text = d at hdg hsum
          have s1 : ((x.sum : Int) != (d : Int)) = true := by simp; omega
          clear hsum
          clear HB HK hg htm hlg
          go_wp2_with fail
          have hvs := vs_new (A := some ⟨b, off, none⟩) (l := l) (b := b) x 37 hrw hbr (E.now hbr) hbl
          clear hrw x0 x1 x2
          generalize wr.alloc (.cells #[.int .i64 x.time, .string (bs x.text), .int .u64 (x.sum : Int)] 37) = w1 at hvs ⊢
          generalize wr.heap.size = g at hvs ⊢
          have hS : w1.cell? ⟨g, 0, none⟩ = some (.int .i64 x.time) ∧ w1.cell? ⟨g, 1, none⟩ = some (.string (bs x.text)) ∧ w1.cell? ⟨g, 2, none⟩ = some (.int .u64 (x.sum : Int)) ∧ VI w (some ⟨b, off, none⟩) l g b w1 := hvs
          clear hvs
          have hT := hS
          obtain ⟨z0, z1, z2, hz9⟩ := hT
          (refine wp_region_quiet_lit (by kernel_rfl) (by kernel_rfl) ?_; (repeat (any_goals (first | go_big_quiet_step ((first | (go_at_call 22; exact Calls.quiet_of_same ((timelyC HTM.out _ hxo.1).mono fun _ _ h => ⟨h.1, h.2.symm⟩)))) | quiet_step ((first | (go_at_call 22; exact Calls.quiet_of_same ((timelyC HTM.out _ hxo.1).mono fun _ _ h => ⟨h.1, h.2.symm⟩)))) | (refine wpQuiet_step (fun K hK => ?_); go_simp; split <;> (refine hK _ ?_; clear hK K))))); all_goals (refine wpQuiet_nil ?_; intro _ hw'; obtain ⟨nq, hw''⟩ := hw'; subst hw''))
          clear z0 z1 z2 hz9
          have hT : (w1.drewN nq).cell? ⟨g, 0, none⟩ = some (.int .i64 x.time) ∧ (w1.drewN nq).cell? ⟨g, 1, none⟩ = some (.string (bs x.text)) ∧ (w1.drewN nq).cell? ⟨g, 2, none⟩ = some (.int .u64 (x.sum : Int)) ∧ VI w (some ⟨b, off, none⟩) l g b (w1.drewN nq) := VS.now hS (below_drewN (Below.refl _ _) nq)
          clear hS
          generalize w1.drewN nq = w2 at hT ⊢
          have hS := hT
          clear hT
          go_wp2_with fail
          go_region_held3 (fun w' => w'.cell? ⟨g, 0, none⟩ = some (.int .i64 x.time) ∧ w'.cell? ⟨g, 1, none⟩ = some (.string (bs x.text)) ∧ w'.cell? ⟨g, 2, none⟩ = some (.int .u64 (x.sum : Int)) ∧ VI w (some ⟨b, off, none⟩) l g b w') (first | assumption | exact vs_drew ‹_› | (refine VS.now ‹_› ?_; assumption)) (first
            | (go_at_call 23; refine (legibleC HLG.out _ hxo.2.1).mono ?_; rintro e wq ⟨rfl, rfl⟩)
            | (go_at_call 18; refine (sumC (l := l) (k := 0) hkl HSM.out _ _ _ (v1i (by assumption)).1 hl).mono ?_; rintro e wq ⟨rfl, rfl⟩)
            | (go_at_call 24; refine (hdg _ (v1i (by assumption)).2.2.1).mono ?_; rintro e wq ⟨rfl, hq⟩))
          all_goals (go_wp2_with fail)
          all_goals (go_ret; exact ⟨ret_int (by have h := HR.out; omega), (v1i (by assumption)).2.1⟩)
        · have HR := Lib.hid (HK.out hg)
          have HTM := Lib.hid htm
          have HLG := Lib.hid hlg
          have hxl := (legB_iff.1 hlg).1.2
          have hdg := fun W (E : Env W) => digest_any sm x.time x.text W E hsm hxo.1 (by omega)
          generalize dgst sm x.time x.text = d at hdg hsum
          have s1 : ((x.sum : Int) != (d : Int)) = false := by simp; omega
          clear hsum
          clear HB HK hg htm hlg
          go_wp2_with fail
          have hvs := vs_new (A := some ⟨b, off, none⟩) (l := l) (b := b) x 37 hrw hbr (E.now hbr) hbl
          clear hrw x0 x1 x2
          generalize wr.alloc (.cells #[.int .i64 x.time, .string (bs x.text), .int .u64 (x.sum : Int)] 37) = w1 at hvs ⊢
          generalize wr.heap.size = g at hvs ⊢
          have hS : w1.cell? ⟨g, 0, none⟩ = some (.int .i64 x.time) ∧ w1.cell? ⟨g, 1, none⟩ = some (.string (bs x.text)) ∧ w1.cell? ⟨g, 2, none⟩ = some (.int .u64 (x.sum : Int)) ∧ VI w (some ⟨b, off, none⟩) l g b w1 := hvs
          clear hvs
          have hT := hS
          obtain ⟨z0, z1, z2, hz9⟩ := hT
          (refine wp_region_quiet_lit (by kernel_rfl) (by kernel_rfl) ?_; (repeat (any_goals (first | go_big_quiet_step ((first | (go_at_call 22; exact Calls.quiet_of_same ((timelyC HTM.out _ hxo.1).mono fun _ _ h => ⟨h.1, h.2.symm⟩)))) | quiet_step ((first | (go_at_call 22; exact Calls.quiet_of_same ((timelyC HTM.out _ hxo.1).mono fun _ _ h => ⟨h.1, h.2.symm⟩)))) | (refine wpQuiet_step (fun K hK => ?_); go_simp; split <;> (refine hK _ ?_; clear hK K))))); all_goals (refine wpQuiet_nil ?_; intro _ hw'; obtain ⟨nq, hw''⟩ := hw'; subst hw''))
          clear z0 z1 z2 hz9
          have hT : (w1.drewN nq).cell? ⟨g, 0, none⟩ = some (.int .i64 x.time) ∧ (w1.drewN nq).cell? ⟨g, 1, none⟩ = some (.string (bs x.text)) ∧ (w1.drewN nq).cell? ⟨g, 2, none⟩ = some (.int .u64 (x.sum : Int)) ∧ VI w (some ⟨b, off, none⟩) l g b (w1.drewN nq) := VS.now hS (below_drewN (Below.refl _ _) nq)
          clear hS
          generalize w1.drewN nq = w2 at hT ⊢
          have hS := hT
          clear hT
          go_wp2_with fail
          go_region_held3 (fun w' => w'.cell? ⟨g, 0, none⟩ = some (.int .i64 x.time) ∧ w'.cell? ⟨g, 1, none⟩ = some (.string (bs x.text)) ∧ w'.cell? ⟨g, 2, none⟩ = some (.int .u64 (x.sum : Int)) ∧ VI w (some ⟨b, off, none⟩) l g b w') (first | assumption | exact vs_drew ‹_› | (refine VS.now ‹_› ?_; assumption)) (first
            | (go_at_call 23; refine (legibleC HLG.out _ hxo.2.1).mono ?_; rintro e wq ⟨rfl, rfl⟩)
            | (go_at_call 18; refine (sumC (l := l) (k := 0) hkl HSM.out _ _ _ (v1i (by assumption)).1 hl).mono ?_; rintro e wq ⟨rfl, rfl⟩)
            | (go_at_call 24; refine (hdg _ (v1i (by assumption)).2.2.1).mono ?_; rintro e wq ⟨rfl, hq⟩))
          all_goals (go_wp2_with fail)
          all_goals (
            go_roundw
            case rel => exact ⟨0 + 1, by omega, by go_num, (v1i (by assumption)).2.1, HR⟩
            case measure => simp [intOf] <;> omega)
      · have hlp := lastT_at l p (by omega)
        rw [hlp] at hgc HB HK
        obtain ⟨b', off', hA', _, _, y0, _, _⟩ := ent_at hrw (i := p) (by omega)
        obtain ⟨rfl, rfl⟩ : b = b' ∧ off = off' := by simpa using hA'
        clear hA' hlp
        generalize l[p] = y at hgc HB HK y0
        have hn : ((p + 1 : Nat) : Int) - 1 = (p : Int) := by omega
        have hp1 : (p : Int) < (l.length : Int) := by omega
        have hp2 : (p : Int) + 1 < (l.length : Int) := by omega
        have hc1 : (0 : Int) ≤ (p : Int) + 1 := by omega
        have hw1 : IntKind.i64.wrap (p : Int) = (p : Int) := by unfold IntKind.wrap; simp [IntKind.bits, IntKind.signed]; omega
        have hw2 : IntKind.i64.wrap ((p : Int) + 1 - 1) = (p : Int) := by rw [show (p : Int) + 1 - 1 = (p : Int) by omega]; exact hw1
        have hc2 : (p : Int) + 1 ≤ (cap : Int) := by omega
        generalize l[p + 1] = x at hgc HB HK hxo x0 x1 x2
        rcases hgc with ⟨hg, h512⟩ | ⟨hg, h512, htm⟩ | ⟨hg, h512, htm, hord⟩ | ⟨hg, h512, htm, hord, hlg⟩ | ⟨hg, h512, htm, hord, hlg, hsum⟩ | ⟨hg, h512, htm, hord, hlg, hsum⟩
        · have HR := Lib.hid (HB.out hg)
          have H512 := Lib.hid h512
          clear h512
          clear HB HK hg
          go_wp2_with fail
          · go_ret
            exact ⟨ret_int (by have h := HR.out; omega), hbr.alloc hsz _⟩
          · exfalso
            have h11 : (((p : Nat) : Int) + 1 == 512) = true := by have := H512.out; simp; omega
            have h10 : (((p : Nat) : Int) + 1 == 512) = false := by assumption
            rw [h11] at h10
            cases h10
        · have HR := Lib.hid (HB.out hg)
          have c5' : (((p : Nat) : Int) + 1 == 512) = false := by simp; omega
          have HTM := Lib.hid htm
          clear HB HK hg htm
          go_wp2_with fail
          have hvs := vs_new (A := some ⟨b, off, none⟩) (l := l) (b := b) x 37 hrw hbr (E.now hbr) hbl
          have hy0 := (((Below.refl _ _).alloc (Nat.le_refl _) (.cells #[.int .i64 x.time, .string (bs x.text), .int .u64 (x.sum : Int)] 37)).cell (p := ⟨b, off + p * 3, none⟩) hbl).trans y0
          clear hrw x0 x1 x2 y0
          generalize wr.alloc (.cells #[.int .i64 x.time, .string (bs x.text), .int .u64 (x.sum : Int)] 37) = w1 at hvs hy0 ⊢
          generalize wr.heap.size = g at hvs ⊢
          have hS : w1.cell? ⟨b, off + p * 3, none⟩ = some (.int .i64 y.time) ∧ w1.cell? ⟨g, 0, none⟩ = some (.int .i64 x.time) ∧ w1.cell? ⟨g, 1, none⟩ = some (.string (bs x.text)) ∧ w1.cell? ⟨g, 2, none⟩ = some (.int .u64 (x.sum : Int)) ∧ VI w (some ⟨b, off, none⟩) l g b w1 := ⟨hy0, hvs⟩
          clear hvs hy0
          have hT := hS
          obtain ⟨zy, z0, z1, z2, hz9⟩ := hT
          (refine wp_region_quiet_lit (by kernel_rfl) (by kernel_rfl) ?_; (repeat (any_goals (first | go_big_quiet_step ((first | (go_at_call 22; exact Calls.quiet_of_same ((timelyC HTM.out _ hxo.1).mono fun _ _ h => ⟨h.1, h.2.symm⟩)))) | quiet_step ((first | (go_at_call 22; exact Calls.quiet_of_same ((timelyC HTM.out _ hxo.1).mono fun _ _ h => ⟨h.1, h.2.symm⟩)))) | (refine wpQuiet_step (fun K hK => ?_); go_simp; split <;> (refine hK _ ?_; clear hK K))))); all_goals (refine wpQuiet_nil ?_; intro _ hw'; obtain ⟨nq, hw''⟩ := hw'; subst hw''))
          clear zy z0 z1 z2 hz9
          have hT : (w1.drewN nq).cell? ⟨b, off + p * 3, none⟩ = some (.int .i64 y.time) ∧ (w1.drewN nq).cell? ⟨g, 0, none⟩ = some (.int .i64 x.time) ∧ (w1.drewN nq).cell? ⟨g, 1, none⟩ = some (.string (bs x.text)) ∧ (w1.drewN nq).cell? ⟨g, 2, none⟩ = some (.int .u64 (x.sum : Int)) ∧ VI w (some ⟨b, off, none⟩) l g b (w1.drewN nq) := VS2.now hS (below_drewN (Below.refl _ _) nq)
          clear hS
          generalize w1.drewN nq = w2 at hT ⊢
          have hS := hT
          clear hT
          go_wp2_with fail
          all_goals (go_ret; exact ⟨ret_int (by have h := HR.out; omega), (v2i (by assumption)).2.1⟩)
        · have HR := Lib.hid (HB.out hg)
          have c5' : (((p : Nat) : Int) + 1 == 512) = false := by simp; omega
          have HTM := Lib.hid htm
          have o1 : decide (x.time < y.time) = true := by simp; omega
          clear HB HK hg htm
          go_wp2_with fail
          have hvs := vs_new (A := some ⟨b, off, none⟩) (l := l) (b := b) x 37 hrw hbr (E.now hbr) hbl
          have hy0 := (((Below.refl _ _).alloc (Nat.le_refl _) (.cells #[.int .i64 x.time, .string (bs x.text), .int .u64 (x.sum : Int)] 37)).cell (p := ⟨b, off + p * 3, none⟩) hbl).trans y0
          clear hrw x0 x1 x2 y0
          generalize wr.alloc (.cells #[.int .i64 x.time, .string (bs x.text), .int .u64 (x.sum : Int)] 37) = w1 at hvs hy0 ⊢
          generalize wr.heap.size = g at hvs ⊢
          have hS : w1.cell? ⟨b, off + p * 3, none⟩ = some (.int .i64 y.time) ∧ w1.cell? ⟨g, 0, none⟩ = some (.int .i64 x.time) ∧ w1.cell? ⟨g, 1, none⟩ = some (.string (bs x.text)) ∧ w1.cell? ⟨g, 2, none⟩ = some (.int .u64 (x.sum : Int)) ∧ VI w (some ⟨b, off, none⟩) l g b w1 := ⟨hy0, hvs⟩
          clear hvs hy0
          have hT := hS
          obtain ⟨zy, z0, z1, z2, hz9⟩ := hT
          (refine wp_region_quiet_lit (by kernel_rfl) (by kernel_rfl) ?_; (repeat (any_goals (first | go_big_quiet_step ((first | (go_at_call 22; exact Calls.quiet_of_same ((timelyC HTM.out _ hxo.1).mono fun _ _ h => ⟨h.1, h.2.symm⟩)))) | quiet_step ((first | (go_at_call 22; exact Calls.quiet_of_same ((timelyC HTM.out _ hxo.1).mono fun _ _ h => ⟨h.1, h.2.symm⟩)))) | (refine wpQuiet_step (fun K hK => ?_); go_simp; split <;> (refine hK _ ?_; clear hK K))))); all_goals (refine wpQuiet_nil ?_; intro _ hw'; obtain ⟨nq, hw''⟩ := hw'; subst hw''))
          clear zy z0 z1 z2 hz9
          have hT : (w1.drewN nq).cell? ⟨b, off + p * 3, none⟩ = some (.int .i64 y.time) ∧ (w1.drewN nq).cell? ⟨g, 0, none⟩ = some (.int .i64 x.time) ∧ (w1.drewN nq).cell? ⟨g, 1, none⟩ = some (.string (bs x.text)) ∧ (w1.drewN nq).cell? ⟨g, 2, none⟩ = some (.int .u64 (x.sum : Int)) ∧ VI w (some ⟨b, off, none⟩) l g b (w1.drewN nq) := VS2.now hS (below_drewN (Below.refl _ _) nq)
          clear hS
          generalize w1.drewN nq = w2 at hT ⊢
          have hS := hT
          clear hT
          go_wp2_with fail
          all_goals (go_ret; exact ⟨ret_int (by have h := HR.out; omega), (v2i (by assumption)).2.1⟩)
        · have HR := Lib.hid (HB.out hg)
          have c5' : (((p : Nat) : Int) + 1 == 512) = false := by simp; omega
          have HTM := Lib.hid htm
          have o1 : decide (x.time < y.time) = false := by simp; omega
          have HLG := Lib.hid hlg
          clear HB HK hg htm hlg
          go_wp2_with fail
          have hvs := vs_new (A := some ⟨b, off, none⟩) (l := l) (b := b) x 37 hrw hbr (E.now hbr) hbl
          have hy0 := (((Below.refl _ _).alloc (Nat.le_refl _) (.cells #[.int .i64 x.time, .string (bs x.text), .int .u64 (x.sum : Int)] 37)).cell (p := ⟨b, off + p * 3, none⟩) hbl).trans y0
          clear hrw x0 x1 x2 y0
          generalize wr.alloc (.cells #[.int .i64 x.time, .string (bs x.text), .int .u64 (x.sum : Int)] 37) = w1 at hvs hy0 ⊢
          generalize wr.heap.size = g at hvs ⊢
          have hS : w1.cell? ⟨b, off + p * 3, none⟩ = some (.int .i64 y.time) ∧ w1.cell? ⟨g, 0, none⟩ = some (.int .i64 x.time) ∧ w1.cell? ⟨g, 1, none⟩ = some (.string (bs x.text)) ∧ w1.cell? ⟨g, 2, none⟩ = some (.int .u64 (x.sum : Int)) ∧ VI w (some ⟨b, off, none⟩) l g b w1 := ⟨hy0, hvs⟩
          clear hvs hy0
          have hT := hS
          obtain ⟨zy, z0, z1, z2, hz9⟩ := hT
          (refine wp_region_quiet_lit (by kernel_rfl) (by kernel_rfl) ?_; (repeat (any_goals (first | go_big_quiet_step ((first | (go_at_call 22; exact Calls.quiet_of_same ((timelyC HTM.out _ hxo.1).mono fun _ _ h => ⟨h.1, h.2.symm⟩)))) | quiet_step ((first | (go_at_call 22; exact Calls.quiet_of_same ((timelyC HTM.out _ hxo.1).mono fun _ _ h => ⟨h.1, h.2.symm⟩)))) | (refine wpQuiet_step (fun K hK => ?_); go_simp; split <;> (refine hK _ ?_; clear hK K))))); all_goals (refine wpQuiet_nil ?_; intro _ hw'; obtain ⟨nq, hw''⟩ := hw'; subst hw''))
          clear zy z0 z1 z2 hz9
          have hT : (w1.drewN nq).cell? ⟨b, off + p * 3, none⟩ = some (.int .i64 y.time) ∧ (w1.drewN nq).cell? ⟨g, 0, none⟩ = some (.int .i64 x.time) ∧ (w1.drewN nq).cell? ⟨g, 1, none⟩ = some (.string (bs x.text)) ∧ (w1.drewN nq).cell? ⟨g, 2, none⟩ = some (.int .u64 (x.sum : Int)) ∧ VI w (some ⟨b, off, none⟩) l g b (w1.drewN nq) := VS2.now hS (below_drewN (Below.refl _ _) nq)
          clear hS
          generalize w1.drewN nq = w2 at hT ⊢
          have hS := hT
          clear hT
          go_wp2_with fail
          have hT := hS
          obtain ⟨zy, z0, z1, z2, hz9⟩ := hT
          (refine wp_region_quiet_lit (by kernel_rfl) (by kernel_rfl) ?_; (repeat (any_goals (first | go_big_quiet_step ((first | (go_at_call 23; exact Calls.quiet_of_same ((legibleC HLG.out _ hxo.2.1).mono fun _ _ h => ⟨h.1, h.2.symm⟩)))) | quiet_step ((first | (go_at_call 23; exact Calls.quiet_of_same ((legibleC HLG.out _ hxo.2.1).mono fun _ _ h => ⟨h.1, h.2.symm⟩)))) | (refine wpQuiet_step (fun K hK => ?_); go_simp; split <;> (refine hK _ ?_; clear hK K))))); all_goals (refine wpQuiet_nil ?_; intro _ hw'; obtain ⟨nq, hw''⟩ := hw'; subst hw''))
          clear zy z0 z1 z2 hz9
          have hT : (w2.drewN nq).cell? ⟨b, off + p * 3, none⟩ = some (.int .i64 y.time) ∧ (w2.drewN nq).cell? ⟨g, 0, none⟩ = some (.int .i64 x.time) ∧ (w2.drewN nq).cell? ⟨g, 1, none⟩ = some (.string (bs x.text)) ∧ (w2.drewN nq).cell? ⟨g, 2, none⟩ = some (.int .u64 (x.sum : Int)) ∧ VI w (some ⟨b, off, none⟩) l g b (w2.drewN nq) := VS2.now hS (below_drewN (Below.refl _ _) nq)
          clear hS
          generalize w2.drewN nq = w3 at hT ⊢
          have hS := hT
          clear hT
          go_wp2_with fail
          all_goals (go_ret; exact ⟨ret_int (by have h := HR.out; omega), (v2i (by assumption)).2.1⟩)
        · have HR := Lib.hid (HB.out hg)
          have c5' : (((p : Nat) : Int) + 1 == 512) = false := by simp; omega
          have HTM := Lib.hid htm
          have o1 : decide (x.time < y.time) = false := by simp; omega
          have HLG := Lib.hid hlg
          have hxl := (legB_iff.1 hlg).1.2
          have hdg := fun W (E : Env W) => digest_any sm x.time x.text W E hsm hxo.1 (by omega)
          generalize dgst sm x.time x.text = d at hdg hsum
          have s1 : ((x.sum : Int) != (d : Int)) = true := by simp; omega
          clear hsum
          clear HB HK hg htm hlg
          go_wp2_with fail
          have hvs := vs_new (A := some ⟨b, off, none⟩) (l := l) (b := b) x 37 hrw hbr (E.now hbr) hbl
          have hy0 := (((Below.refl _ _).alloc (Nat.le_refl _) (.cells #[.int .i64 x.time, .string (bs x.text), .int .u64 (x.sum : Int)] 37)).cell (p := ⟨b, off + p * 3, none⟩) hbl).trans y0
          clear hrw x0 x1 x2 y0
          generalize wr.alloc (.cells #[.int .i64 x.time, .string (bs x.text), .int .u64 (x.sum : Int)] 37) = w1 at hvs hy0 ⊢
          generalize wr.heap.size = g at hvs ⊢
          have hS : w1.cell? ⟨b, off + p * 3, none⟩ = some (.int .i64 y.time) ∧ w1.cell? ⟨g, 0, none⟩ = some (.int .i64 x.time) ∧ w1.cell? ⟨g, 1, none⟩ = some (.string (bs x.text)) ∧ w1.cell? ⟨g, 2, none⟩ = some (.int .u64 (x.sum : Int)) ∧ VI w (some ⟨b, off, none⟩) l g b w1 := ⟨hy0, hvs⟩
          clear hvs hy0
          have hT := hS
          obtain ⟨zy, z0, z1, z2, hz9⟩ := hT
          (refine wp_region_quiet_lit (by kernel_rfl) (by kernel_rfl) ?_; (repeat (any_goals (first | go_big_quiet_step ((first | (go_at_call 22; exact Calls.quiet_of_same ((timelyC HTM.out _ hxo.1).mono fun _ _ h => ⟨h.1, h.2.symm⟩)))) | quiet_step ((first | (go_at_call 22; exact Calls.quiet_of_same ((timelyC HTM.out _ hxo.1).mono fun _ _ h => ⟨h.1, h.2.symm⟩)))) | (refine wpQuiet_step (fun K hK => ?_); go_simp; split <;> (refine hK _ ?_; clear hK K))))); all_goals (refine wpQuiet_nil ?_; intro _ hw'; obtain ⟨nq, hw''⟩ := hw'; subst hw''))
          clear zy z0 z1 z2 hz9
          have hT : (w1.drewN nq).cell? ⟨b, off + p * 3, none⟩ = some (.int .i64 y.time) ∧ (w1.drewN nq).cell? ⟨g, 0, none⟩ = some (.int .i64 x.time) ∧ (w1.drewN nq).cell? ⟨g, 1, none⟩ = some (.string (bs x.text)) ∧ (w1.drewN nq).cell? ⟨g, 2, none⟩ = some (.int .u64 (x.sum : Int)) ∧ VI w (some ⟨b, off, none⟩) l g b (w1.drewN nq) := VS2.now hS (below_drewN (Below.refl _ _) nq)
          clear hS
          generalize w1.drewN nq = w2 at hT ⊢
          have hS := hT
          clear hT
          go_wp2_with fail
          go_region_held3 (fun w' => w'.cell? ⟨b, off + p * 3, none⟩ = some (.int .i64 y.time) ∧ w'.cell? ⟨g, 0, none⟩ = some (.int .i64 x.time) ∧ w'.cell? ⟨g, 1, none⟩ = some (.string (bs x.text)) ∧ w'.cell? ⟨g, 2, none⟩ = some (.int .u64 (x.sum : Int)) ∧ VI w (some ⟨b, off, none⟩) l g b w') (first | assumption | exact vs2_drew ‹_› | (refine VS2.now ‹_› ?_; assumption)) (first
            | (go_at_call 23; refine (legibleC HLG.out _ hxo.2.1).mono ?_; rintro e wq ⟨rfl, rfl⟩)
            | (go_at_call 18; refine (sumC (l := l) (k := p + 1) hkl HSM.out _ _ _ (v2i (by assumption)).1 hl).mono ?_; rintro e wq ⟨rfl, rfl⟩)
            | (go_at_call 24; refine (hdg _ (v2i (by assumption)).2.2.1).mono ?_; rintro e wq ⟨rfl, hq⟩))
          all_goals (go_wp2_with fail)
          all_goals (go_ret; exact ⟨ret_int (by have h := HR.out; omega), (v2i (by assumption)).2.1⟩)
        · have HR := Lib.hid (HK.out hg)
          have c5' : (((p : Nat) : Int) + 1 == 512) = false := by simp; omega
          have HTM := Lib.hid htm
          have o1 : decide (x.time < y.time) = false := by simp; omega
          have HLG := Lib.hid hlg
          have hxl := (legB_iff.1 hlg).1.2
          have hdg := fun W (E : Env W) => digest_any sm x.time x.text W E hsm hxo.1 (by omega)
          generalize dgst sm x.time x.text = d at hdg hsum
          have s1 : ((x.sum : Int) != (d : Int)) = false := by simp; omega
          clear hsum
          clear HB HK hg htm hlg
          go_wp2_with fail
          have hvs := vs_new (A := some ⟨b, off, none⟩) (l := l) (b := b) x 37 hrw hbr (E.now hbr) hbl
          have hy0 := (((Below.refl _ _).alloc (Nat.le_refl _) (.cells #[.int .i64 x.time, .string (bs x.text), .int .u64 (x.sum : Int)] 37)).cell (p := ⟨b, off + p * 3, none⟩) hbl).trans y0
          clear hrw x0 x1 x2 y0
          generalize wr.alloc (.cells #[.int .i64 x.time, .string (bs x.text), .int .u64 (x.sum : Int)] 37) = w1 at hvs hy0 ⊢
          generalize wr.heap.size = g at hvs ⊢
          have hS : w1.cell? ⟨b, off + p * 3, none⟩ = some (.int .i64 y.time) ∧ w1.cell? ⟨g, 0, none⟩ = some (.int .i64 x.time) ∧ w1.cell? ⟨g, 1, none⟩ = some (.string (bs x.text)) ∧ w1.cell? ⟨g, 2, none⟩ = some (.int .u64 (x.sum : Int)) ∧ VI w (some ⟨b, off, none⟩) l g b w1 := ⟨hy0, hvs⟩
          clear hvs hy0
          have hT := hS
          obtain ⟨zy, z0, z1, z2, hz9⟩ := hT
          (refine wp_region_quiet_lit (by kernel_rfl) (by kernel_rfl) ?_; (repeat (any_goals (first | go_big_quiet_step ((first | (go_at_call 22; exact Calls.quiet_of_same ((timelyC HTM.out _ hxo.1).mono fun _ _ h => ⟨h.1, h.2.symm⟩)))) | quiet_step ((first | (go_at_call 22; exact Calls.quiet_of_same ((timelyC HTM.out _ hxo.1).mono fun _ _ h => ⟨h.1, h.2.symm⟩)))) | (refine wpQuiet_step (fun K hK => ?_); go_simp; split <;> (refine hK _ ?_; clear hK K))))); all_goals (refine wpQuiet_nil ?_; intro _ hw'; obtain ⟨nq, hw''⟩ := hw'; subst hw''))
          clear zy z0 z1 z2 hz9
          have hT : (w1.drewN nq).cell? ⟨b, off + p * 3, none⟩ = some (.int .i64 y.time) ∧ (w1.drewN nq).cell? ⟨g, 0, none⟩ = some (.int .i64 x.time) ∧ (w1.drewN nq).cell? ⟨g, 1, none⟩ = some (.string (bs x.text)) ∧ (w1.drewN nq).cell? ⟨g, 2, none⟩ = some (.int .u64 (x.sum : Int)) ∧ VI w (some ⟨b, off, none⟩) l g b (w1.drewN nq) := VS2.now hS (below_drewN (Below.refl _ _) nq)
          clear hS
          generalize w1.drewN nq = w2 at hT ⊢
          have hS := hT
          clear hT
          go_wp2_with fail
          go_region_held3 (fun w' => w'.cell? ⟨b, off + p * 3, none⟩ = some (.int .i64 y.time) ∧ w'.cell? ⟨g, 0, none⟩ = some (.int .i64 x.time) ∧ w'.cell? ⟨g, 1, none⟩ = some (.string (bs x.text)) ∧ w'.cell? ⟨g, 2, none⟩ = some (.int .u64 (x.sum : Int)) ∧ VI w (some ⟨b, off, none⟩) l g b w') (first | assumption | exact vs2_drew ‹_› | (refine VS2.now ‹_› ?_; assumption)) (first
            | (go_at_call 23; refine (legibleC HLG.out _ hxo.2.1).mono ?_; rintro e wq ⟨rfl, rfl⟩)
            | (go_at_call 18; refine (sumC (l := l) (k := p + 1) hkl HSM.out _ _ _ (v2i (by assumption)).1 hl).mono ?_; rintro e wq ⟨rfl, rfl⟩)
            | (go_at_call 24; refine (hdg _ (v2i (by assumption)).2.2.1).mono ?_; rintro e wq ⟨rfl, hq⟩))
          all_goals (go_wp2_with fail)
          all_goals (
            go_roundw
            case rel => exact ⟨(p + 1) + 1, by omega, by go_num, (v2i (by assumption)).2.1, HR⟩
            case measure => simp [intOf] <;> omega)
    · have HR := Lib.hid (ver_end hlt HV.out)
      go_wp2_with fail
      go_ret
      exact ⟨ret_int (by rw [HR.out]), hbr⟩
end Go.Proofs.YtnckainiphlndaaDoor
