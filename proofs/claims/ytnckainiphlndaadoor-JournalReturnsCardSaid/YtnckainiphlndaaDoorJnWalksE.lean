/- The walk of Verify's reference. -/
import Derived.Test.YtnckainiphlndaaDoorJnWalksD
namespace Go.Proofs.YtnckainiphlndaaDoor
set_option linter.unusedVariables false
set_option linter.unusedSimpArgs false
open Go.RowKit
attribute [local go_sem] bs_size bs_get bs_append bs_extract bs_toList
set_option maxRecDepth 100000 in
set_option maxHeartbeats 16000000 in
theorem rverify_any (l : List Ent) (A : Option Addr) (cap : Nat) (w : World) (E : Env w) (hr : RdS cE w (Lt w) A l) (hl : l.length ≤ maxLen) (hcap : l.length ≤ cap) :
    Calls Tryd.prog 13 #[.slice A l.length cap] w fun e w' => e = .returned (.int .i64 (verF l)) ∧ Below w.heap.size w w' := by
  have hl2 := hl
  unfold maxLen at hl2
  go_enter Tryd.func13, Tryd.ntmps13
  go_wp2
  go_loopw [7] (fun i wr => ∃ k : Nat, k ≤ l.length ∧ i = .int .i64 k ∧ Below w.heap.size w wr ∧ Hid (verF l = verG k (lastT (l.take k)) (sumF (l.take k)) (l.drop k))) (fun i _ => (l.length - intOf i).toNat)
  case atStart => exact ⟨0, Nat.zero_le _, rfl, Below.refl _ _, Lib.hid rfl⟩
  case round =>
    obtain ⟨k, hk, rfl, hbr, HV⟩ := hrel
    have hsz := hbr.size
    by_cases hlt : k < l.length
    · have hrw := hr.now hbr
      obtain ⟨b, off, hA, hbl, hxo, x0, x1, x2⟩ := ent_at hrw hlt
      subst hA
      have hgc := good_cases k (lastT (l.take k)) (sumF (l.take k)) l[k]
      have HB : Hid (goodE k (lastT (l.take k)) (sumF (l.take k)) l[k] = false → verF l = k) := Lib.hid (ver_bad hlt HV.out)
      have HK := Lib.hid (ver_ok hlt HV.out)
      have HK : Hid (goodE k (lastT (l.take k)) (sumF (l.take k)) l[k] = true → Hid (verF l = verG (k + 1) (lastT (l.take (k + 1))) (sumF (l.take (k + 1))) (l.drop (k + 1)))) := Lib.hid fun h => Lib.hid (HK.out h)
      have hkl : k ≤ l.length := hk
      have hsm : sumF (l.take k) < 18446744073709551616 := sumF_lt fun x hx => ent_all hr x (List.mem_of_mem_take hx)
      obtain ⟨sm, hsmE⟩ : ∃ n, sumF (l.take k) = n := ⟨_, rfl⟩
      rw [hsmE] at hgc HB HK hsm
      have HSM := Lib.hid hsmE
      clear hsmE
      clear HV
      rcases k with _ | p
      · have hlp : lastT (l.take 0) = 0 := rfl
        rw [hlp] at hgc HB HK
        clear hlp
        have hp2 : (0 : Int) < (l.length : Int) := by omega
        have hc2 : (0 : Int) ≤ (cap : Int) := by omega
        generalize l[0] = x at hgc HB HK hxo x0 x1 x2
        simp only [Nat.zero_mul, Nat.add_zero] at x0 x1 x2
        rcases hgc with ⟨hg, h512⟩ | ⟨hg, h512, htm⟩ | ⟨hg, h512, htm, hord⟩ | ⟨hg, h512, htm, hord, hlg⟩ | ⟨hg, h512, htm, hord, hlg, hsum⟩ | ⟨hg, h512, htm, hord, hlg, hsum⟩
        · exact absurd h512 (by decide)
        · have HR := Lib.hid (HB.out hg)
          have ht2 : x.time < 0 ∨ 1073741824 < x.time := by
            have : ¬ (0 ≤ x.time ∧ x.time ≤ 1073741824) := fun h => by rw [tmB_iff.2 h] at htm; cases htm
            omega
          clear HB HK hg htm
          rcases ht2 with ht2 | ht2
          · have t1 : decide (x.time < 0) = true := by simp; omega
            go_wp2_with fail
            have hvs := vs_new (A := some ⟨b, off, none⟩) (l := l) (b := b) x 37 hrw hbr (E.now hbr) hbl
            clear hrw x0 x1 x2
            generalize wr.alloc (.cells #[.int .i64 x.time, .string (bs x.text), .int .u64 (x.sum : Int)] 37) = w1 at hvs ⊢
            generalize wr.heap.size = g at hvs ⊢
            have hS : w1.cell? ⟨g, 0, none⟩ = some (.int .i64 x.time) ∧ w1.cell? ⟨g, 1, none⟩ = some (.string (bs x.text)) ∧ w1.cell? ⟨g, 2, none⟩ = some (.int .u64 (x.sum : Int)) ∧ VI w (some ⟨b, off, none⟩) l g b w1 := hvs
            clear hvs
            have hT := hS
            obtain ⟨z0, z1, z2, hz9⟩ := hT
            (refine wp_region_quiet_lit (by kernel_rfl) (by kernel_rfl) ?_; (repeat (any_goals (first | go_big_quiet_step (fail) | quiet_step (fail) | (refine wpQuiet_step (fun K hK => ?_); go_simp; split <;> (refine hK _ ?_; clear hK K))))); all_goals (refine wpQuiet_nil ?_; intro _ hw'; obtain ⟨nq, hw''⟩ := hw'; subst hw''))
            clear z0 z1 z2 hz9
            have hT : (w1.drewN nq).cell? ⟨g, 0, none⟩ = some (.int .i64 x.time) ∧ (w1.drewN nq).cell? ⟨g, 1, none⟩ = some (.string (bs x.text)) ∧ (w1.drewN nq).cell? ⟨g, 2, none⟩ = some (.int .u64 (x.sum : Int)) ∧ VI w (some ⟨b, off, none⟩) l g b (w1.drewN nq) := VS.now hS (below_drewN (Below.refl _ _) nq)
            clear hS
            generalize w1.drewN nq = w2 at hT ⊢
            have hS := hT
            clear hT
            go_wp2_with fail
            all_goals (go_ret; exact ⟨ret_int (by have h := HR.out; omega), (v1i (by assumption)).2.1⟩)
          · have t1 : decide (x.time < 0) = false := by simp; omega
            have t2 : decide (1073741824 < x.time) = true := by simp; omega
            go_wp2_with fail
            have hvs := vs_new (A := some ⟨b, off, none⟩) (l := l) (b := b) x 37 hrw hbr (E.now hbr) hbl
            clear hrw x0 x1 x2
            generalize wr.alloc (.cells #[.int .i64 x.time, .string (bs x.text), .int .u64 (x.sum : Int)] 37) = w1 at hvs ⊢
            generalize wr.heap.size = g at hvs ⊢
            have hS : w1.cell? ⟨g, 0, none⟩ = some (.int .i64 x.time) ∧ w1.cell? ⟨g, 1, none⟩ = some (.string (bs x.text)) ∧ w1.cell? ⟨g, 2, none⟩ = some (.int .u64 (x.sum : Int)) ∧ VI w (some ⟨b, off, none⟩) l g b w1 := hvs
            clear hvs
            have hT := hS
            obtain ⟨z0, z1, z2, hz9⟩ := hT
            (refine wp_region_quiet_lit (by kernel_rfl) (by kernel_rfl) ?_; (repeat (any_goals (first | go_big_quiet_step (fail) | quiet_step (fail) | (refine wpQuiet_step (fun K hK => ?_); go_simp; split <;> (refine hK _ ?_; clear hK K))))); all_goals (refine wpQuiet_nil ?_; intro _ hw'; obtain ⟨nq, hw''⟩ := hw'; subst hw''))
            clear z0 z1 z2 hz9
            have hT : (w1.drewN nq).cell? ⟨g, 0, none⟩ = some (.int .i64 x.time) ∧ (w1.drewN nq).cell? ⟨g, 1, none⟩ = some (.string (bs x.text)) ∧ (w1.drewN nq).cell? ⟨g, 2, none⟩ = some (.int .u64 (x.sum : Int)) ∧ VI w (some ⟨b, off, none⟩) l g b (w1.drewN nq) := VS.now hS (below_drewN (Below.refl _ _) nq)
            clear hS
            generalize w1.drewN nq = w2 at hT ⊢
            have hS := hT
            clear hT
            go_wp2_with fail
            all_goals (go_ret; exact ⟨ret_int (by have h := HR.out; omega), (v1i (by assumption)).2.1⟩)
        · exfalso; have := tmB_iff.1 htm; omega
        · have HR := Lib.hid (HB.out hg)
          have ht2 := tmB_iff.1 htm
          have t1 : decide (x.time < 0) = false := by simp; omega
          have t2 : decide (1073741824 < x.time) = false := by simp; omega
          have HLG := Lib.hid hlg
          clear HB HK hg htm hlg
          go_wp2_with fail
          have hvs := vs_new (A := some ⟨b, off, none⟩) (l := l) (b := b) x 37 hrw hbr (E.now hbr) hbl
          clear hrw x0 x1 x2
          generalize wr.alloc (.cells #[.int .i64 x.time, .string (bs x.text), .int .u64 (x.sum : Int)] 37) = w1 at hvs ⊢
          generalize wr.heap.size = g at hvs ⊢
          have hS : w1.cell? ⟨g, 0, none⟩ = some (.int .i64 x.time) ∧ w1.cell? ⟨g, 1, none⟩ = some (.string (bs x.text)) ∧ w1.cell? ⟨g, 2, none⟩ = some (.int .u64 (x.sum : Int)) ∧ VI w (some ⟨b, off, none⟩) l g b w1 := hvs
          clear hvs
          have hT := hS
          obtain ⟨z0, z1, z2, hz9⟩ := hT
          (refine wp_region_quiet_lit (by kernel_rfl) (by kernel_rfl) ?_; (repeat (any_goals (first | go_big_quiet_step ((first | (go_at_call 25; exact Calls.quiet_of_same ((rtextC HLG.out _ hxo.2.1).mono fun _ _ h => ⟨h.1, h.2.symm⟩)))) | quiet_step ((first | (go_at_call 25; exact Calls.quiet_of_same ((rtextC HLG.out _ hxo.2.1).mono fun _ _ h => ⟨h.1, h.2.symm⟩)))) | (refine wpQuiet_step (fun K hK => ?_); go_simp; split <;> (refine hK _ ?_; clear hK K))))); all_goals (refine wpQuiet_nil ?_; intro _ hw'; obtain ⟨nq, hw''⟩ := hw'; subst hw''))
          clear z0 z1 z2 hz9
          have hT : (w1.drewN nq).cell? ⟨g, 0, none⟩ = some (.int .i64 x.time) ∧ (w1.drewN nq).cell? ⟨g, 1, none⟩ = some (.string (bs x.text)) ∧ (w1.drewN nq).cell? ⟨g, 2, none⟩ = some (.int .u64 (x.sum : Int)) ∧ VI w (some ⟨b, off, none⟩) l g b (w1.drewN nq) := VS.now hS (below_drewN (Below.refl _ _) nq)
          clear hS
          generalize w1.drewN nq = w2 at hT ⊢
          have hS := hT
          clear hT
          go_wp2_with fail
          all_goals (go_ret; exact ⟨ret_int (by have h := HR.out; omega), (v1i (by assumption)).2.1⟩)
        · have HR := Lib.hid (HB.out hg)
          have ht2 := tmB_iff.1 htm
          have t1 : decide (x.time < 0) = false := by simp; omega
          have t2 : decide (1073741824 < x.time) = false := by simp; omega
          have HLG := Lib.hid hlg
          have hxl := (legB_iff.1 hlg).1.2
          have hdg := fun W => rdigest_any sm x.time x.text W hsm hxo.1 (by omega)
          generalize dgst sm x.time x.text = d at hdg hsum
          have s1 : ((x.sum : Int) != (d : Int)) = true := by simp; omega
          clear hsum
          clear HB HK hg htm hlg
          go_wp2_with fail
          have hvs := vs_new (A := some ⟨b, off, none⟩) (l := l) (b := b) x 37 hrw hbr (E.now hbr) hbl
          clear hrw x0 x1 x2
          generalize wr.alloc (.cells #[.int .i64 x.time, .string (bs x.text), .int .u64 (x.sum : Int)] 37) = w1 at hvs ⊢
          generalize wr.heap.size = g at hvs ⊢
          have hS : w1.cell? ⟨g, 0, none⟩ = some (.int .i64 x.time) ∧ w1.cell? ⟨g, 1, none⟩ = some (.string (bs x.text)) ∧ w1.cell? ⟨g, 2, none⟩ = some (.int .u64 (x.sum : Int)) ∧ VI w (some ⟨b, off, none⟩) l g b w1 := hvs
          clear hvs
          refine wp_region_held_drew (S := (fun w' => w'.cell? ⟨g, 0, none⟩ = some (.int .i64 x.time) ∧ w'.cell? ⟨g, 1, none⟩ = some (.string (bs x.text)) ∧ w'.cell? ⟨g, 2, none⟩ = some (.int .u64 (x.sum : Int)) ∧ VI w (some ⟨b, off, none⟩) l g b w')) (by kernel_rfl) (vs_drew hS) (fun hHeld => ?_)
          refine wpAnyH_take (i := 0) (oi := { dst := some 12, op := Op.move (Operand.tmp 3), type := 3, pos := "ref.go:44", after := #[], guard := none }) (v := ?_) rfl (by kernel_rfl) (by kernel_rfl) (by kernel_rfl) (fun _ _ _ h => h) (Or.inl ⟨by rfl, ?_⟩) (by assumption) ?_
          rotate_left
          · intro W hSw; (try dsimp only at hSw); go_simp; (first | done | with_reducible rfl)
          (try simp only [Act.put, List.setIfInBounds_toArray, List.set_cons_zero, List.set_cons_succ])
          refine wpAnyH_take (i := 1) (oi := { dst := some 13, op := Op.binOp BinOp.eql 3 (Operand.tmp 12) (Operand.const (Value.int IntKind.i64 512)) 3, type := 4, pos := "ref.go:44", after := #[{ on := 0, ground := Ground.data }], guard := none }) (v := ?_) rfl (by kernel_rfl) (by kernel_rfl) (by kernel_rfl) (fun _ _ _ h => h) (Or.inl ⟨by rfl, ?_⟩) (by assumption) ?_
          rotate_left
          · intro W hSw; (try dsimp only at hSw); go_simp; (first | done | with_reducible rfl)
          (try simp only [Act.put, List.setIfInBounds_toArray, List.set_cons_zero, List.set_cons_succ])
          refine wpAnyH_take (i := 2) (oi := { dst := some 14, op := Op.move (Operand.tmp 13), type := 4, pos := "ref.go:44", after := #[{ on := 1, ground := Ground.data }], guard := none }) (v := ?_) rfl (by kernel_rfl) (by kernel_rfl) (by kernel_rfl) (fun _ _ _ h => h) (Or.inl ⟨by rfl, ?_⟩) (by assumption) ?_
          rotate_left
          · intro W hSw; (try dsimp only at hSw); go_simp; (first | done | with_reducible rfl)
          (try simp only [Act.put, List.setIfInBounds_toArray, List.set_cons_zero, List.set_cons_succ])
          refine wpAnyH_take (i := 3) (oi := { dst := some 15, op := Op.fieldAddr 37 (Operand.tmp 4) 0, type := 0, pos := "ref.go:44", after := #[{ on := 2, ground := Ground.guard }], guard := some (2, false) }) (v := ?_) rfl (by kernel_rfl) (by kernel_rfl) (by kernel_rfl) (fun _ _ _ h => h) (Or.inl ⟨by rfl, ?_⟩) (by assumption) ?_
          rotate_left
          · intro W hSw; (try dsimp only at hSw); go_simp; (first | done | with_reducible rfl)
          (try simp only [Act.put, List.setIfInBounds_toArray, List.set_cons_zero, List.set_cons_succ])
          refine wpAnyH_take (i := 4) (oi := { dst := some 16, op := Op.load 3 (Operand.tmp 15), type := 3, pos := "ref.go:44", after := #[{ on := 3, ground := Ground.data }, { on := 2, ground := Ground.guard }], guard := some (2, false) }) (v := ?_) rfl (by kernel_rfl) (by kernel_rfl) (by kernel_rfl) (fun _ _ _ h => h) (Or.inl ⟨by rfl, ?_⟩) (by assumption) ?_
          rotate_left
          · intro W hSw; (try dsimp only at hSw); go_simp; (first | done | with_reducible rfl)
          (try simp only [Act.put, List.setIfInBounds_toArray, List.set_cons_zero, List.set_cons_succ])
          refine wpAnyH_take (i := 5) (oi := { dst := some 17, op := Op.binOp BinOp.lss 3 (Operand.tmp 16) (Operand.const (Value.int IntKind.i64 0)) 3, type := 4, pos := "ref.go:44", after := #[{ on := 4, ground := Ground.data }, { on := 2, ground := Ground.guard }], guard := some (2, false) }) (v := ?_) rfl (by kernel_rfl) (by kernel_rfl) (by kernel_rfl) (fun _ _ _ h => h) (Or.inl ⟨by rfl, ?_⟩) (by assumption) ?_
          rotate_left
          · intro W hSw; (try dsimp only at hSw); go_simp; (first | done | with_reducible rfl)
          (try simp only [Act.put, List.setIfInBounds_toArray, List.set_cons_zero, List.set_cons_succ])
          refine wpAnyH_take (i := 6) (oi := { dst := some 18, op := Op.pick (Operand.tmp 14) (Operand.const (Value.bool true)) (Operand.tmp 17), type := 4, pos := "ref.go:44", after := #[{ on := 2, ground := Ground.data }, { on := 5, ground := Ground.data }], guard := none }) (v := ?_) rfl (by kernel_rfl) (by kernel_rfl) (by kernel_rfl) (fun _ _ _ h => h) (Or.inl ⟨by rfl, ?_⟩) (by assumption) ?_
          rotate_left
          · intro W hSw; (try dsimp only at hSw); go_simp; (first | done | with_reducible rfl)
          (try simp only [Act.put, List.setIfInBounds_toArray, List.set_cons_zero, List.set_cons_succ])
          refine wpAnyH_take (i := 7) (oi := { dst := some 19, op := Op.move (Operand.tmp 18), type := 4, pos := "ref.go:44", after := #[{ on := 6, ground := Ground.data }, { on := 2, ground := Ground.chain }], guard := none }) (v := ?_) rfl (by kernel_rfl) (by kernel_rfl) (by kernel_rfl) (fun _ _ _ h => h) (Or.inl ⟨by rfl, ?_⟩) (by assumption) ?_
          rotate_left
          · intro W hSw; (try dsimp only at hSw); go_simp; (first | done | with_reducible rfl)
          (try simp only [Act.put, List.setIfInBounds_toArray, List.set_cons_zero, List.set_cons_succ])
          refine wpAnyH_take (i := 8) (oi := { dst := some 20, op := Op.fieldAddr 37 (Operand.tmp 4) 0, type := 0, pos := "ref.go:44", after := #[{ on := 7, ground := Ground.guard }], guard := some (7, false) }) (v := ?_) rfl (by kernel_rfl) (by kernel_rfl) (by kernel_rfl) (fun _ _ _ h => h) (Or.inl ⟨by rfl, ?_⟩) (by assumption) ?_
          rotate_left
          · intro W hSw; (try dsimp only at hSw); go_simp; (first | done | with_reducible rfl)
          (try simp only [Act.put, List.setIfInBounds_toArray, List.set_cons_zero, List.set_cons_succ])
          refine wpAnyH_take (i := 9) (oi := { dst := some 21, op := Op.load 3 (Operand.tmp 20), type := 3, pos := "ref.go:44", after := #[{ on := 8, ground := Ground.data }, { on := 7, ground := Ground.guard }], guard := some (7, false) }) (v := ?_) rfl (by kernel_rfl) (by kernel_rfl) (by kernel_rfl) (fun _ _ _ h => h) (Or.inl ⟨by rfl, ?_⟩) (by assumption) ?_
          rotate_left
          · intro W hSw; (try dsimp only at hSw); go_simp; (first | done | with_reducible rfl)
          (try simp only [Act.put, List.setIfInBounds_toArray, List.set_cons_zero, List.set_cons_succ])
          refine wpAnyH_take (i := 10) (oi := { dst := some 22, op := Op.binOp BinOp.gtr 3 (Operand.tmp 21) (Operand.const (Value.int IntKind.i64 1073741824)) 3, type := 4, pos := "ref.go:44", after := #[{ on := 9, ground := Ground.data }, { on := 7, ground := Ground.guard }], guard := some (7, false) }) (v := ?_) rfl (by kernel_rfl) (by kernel_rfl) (by kernel_rfl) (fun _ _ _ h => h) (Or.inl ⟨by rfl, ?_⟩) (by assumption) ?_
          rotate_left
          · intro W hSw; (try dsimp only at hSw); go_simp; (first | done | with_reducible rfl)
          (try simp only [Act.put, List.setIfInBounds_toArray, List.set_cons_zero, List.set_cons_succ])
          refine wpAnyH_take (i := 11) (oi := { dst := some 23, op := Op.pick (Operand.tmp 19) (Operand.const (Value.bool true)) (Operand.tmp 22), type := 4, pos := "ref.go:44", after := #[{ on := 7, ground := Ground.data }, { on := 10, ground := Ground.data }], guard := none }) (v := ?_) rfl (by kernel_rfl) (by kernel_rfl) (by kernel_rfl) (fun _ _ _ h => h) (Or.inl ⟨by rfl, ?_⟩) (by assumption) ?_
          rotate_left
          · intro W hSw; (try dsimp only at hSw); go_simp; (first | done | with_reducible rfl)
          (try simp only [Act.put, List.setIfInBounds_toArray, List.set_cons_zero, List.set_cons_succ])
          refine wpAnyH_take (i := 12) (oi := { dst := some 24, op := Op.move (Operand.tmp 23), type := 4, pos := "ref.go:44", after := #[{ on := 11, ground := Ground.data }, { on := 7, ground := Ground.chain }], guard := none }) (v := ?_) rfl (by kernel_rfl) (by kernel_rfl) (by kernel_rfl) (fun _ _ _ h => h) (Or.inl ⟨by rfl, ?_⟩) (by assumption) ?_
          rotate_left
          · intro W hSw; (try dsimp only at hSw); go_simp; (first | done | with_reducible rfl)
          (try simp only [Act.put, List.setIfInBounds_toArray, List.set_cons_zero, List.set_cons_succ])
          refine wpAnyH_take (i := 13) (oi := { dst := some 25, op := Op.move (Operand.tmp 3), type := 3, pos := "ref.go:44", after := #[{ on := 12, ground := Ground.guard }], guard := some (12, false) }) (v := ?_) rfl (by kernel_rfl) (by kernel_rfl) (by kernel_rfl) (fun _ _ _ h => h) (Or.inl ⟨by rfl, ?_⟩) (by assumption) ?_
          rotate_left
          · intro W hSw; (try dsimp only at hSw); go_simp; (first | done | with_reducible rfl)
          (try simp only [Act.put, List.setIfInBounds_toArray, List.set_cons_zero, List.set_cons_succ])
          refine wpAnyH_take (i := 14) (oi := { dst := some 26, op := Op.binOp BinOp.gtr 3 (Operand.tmp 25) (Operand.const (Value.int IntKind.i64 0)) 3, type := 4, pos := "ref.go:44", after := #[{ on := 13, ground := Ground.data }, { on := 12, ground := Ground.guard }], guard := some (12, false) }) (v := ?_) rfl (by kernel_rfl) (by kernel_rfl) (by kernel_rfl) (fun _ _ _ h => h) (Or.inl ⟨by rfl, ?_⟩) (by assumption) ?_
          rotate_left
          · intro W hSw; (try dsimp only at hSw); go_simp; (first | done | with_reducible rfl)
          (try simp only [Act.put, List.setIfInBounds_toArray, List.set_cons_zero, List.set_cons_succ])
          refine wpAnyH_take (i := 15) (oi := { dst := some 27, op := Op.move (Operand.tmp 26), type := 4, pos := "ref.go:44", after := #[{ on := 14, ground := Ground.data }, { on := 12, ground := Ground.chain }, { on := 12, ground := Ground.guard }], guard := some (12, false) }) (v := ?_) rfl (by kernel_rfl) (by kernel_rfl) (by kernel_rfl) (fun _ _ _ h => h) (Or.inl ⟨by rfl, ?_⟩) (by assumption) ?_
          rotate_left
          · intro W hSw; (try dsimp only at hSw); go_simp; (first | done | with_reducible rfl)
          (try simp only [Act.put, List.setIfInBounds_toArray, List.set_cons_zero, List.set_cons_succ])
          refine wpAnyH_take (i := 16) (oi := { dst := some 28, op := Op.fieldAddr 37 (Operand.tmp 4) 0, type := 0, pos := "ref.go:44", after := #[{ on := 15, ground := Ground.guard }], guard := some (15, true) }) (v := undef) rfl (by kernel_rfl) (by kernel_rfl) (by kernel_rfl) (fun _ _ _ h => h) (Or.inr ⟨by rfl, rfl⟩) (by assumption) ?_
          (try simp only [Act.put, List.setIfInBounds_toArray, List.set_cons_zero, List.set_cons_succ])
          refine wpAnyH_take (i := 17) (oi := { dst := some 29, op := Op.load 3 (Operand.tmp 28), type := 3, pos := "ref.go:44", after := #[{ on := 16, ground := Ground.data }, { on := 15, ground := Ground.guard }], guard := some (15, true) }) (v := undef) rfl (by kernel_rfl) (by kernel_rfl) (by kernel_rfl) (fun _ _ _ h => h) (Or.inr ⟨by rfl, rfl⟩) (by assumption) ?_
          (try simp only [Act.put, List.setIfInBounds_toArray, List.set_cons_zero, List.set_cons_succ])
          refine wpAnyH_take (i := 18) (oi := { dst := some 30, op := Op.move (Operand.tmp 0), type := 22, pos := "ref.go:44", after := #[{ on := 15, ground := Ground.guard }], guard := some (15, true) }) (v := undef) rfl (by kernel_rfl) (by kernel_rfl) (by kernel_rfl) (fun _ _ _ h => h) (Or.inr ⟨by rfl, rfl⟩) (by assumption) ?_
          (try simp only [Act.put, List.setIfInBounds_toArray, List.set_cons_zero, List.set_cons_succ])
          refine wpAnyH_take (i := 19) (oi := { dst := some 31, op := Op.move (Operand.tmp 3), type := 3, pos := "ref.go:44", after := #[{ on := 15, ground := Ground.guard }], guard := some (15, true) }) (v := undef) rfl (by kernel_rfl) (by kernel_rfl) (by kernel_rfl) (fun _ _ _ h => h) (Or.inr ⟨by rfl, rfl⟩) (by assumption) ?_
          (try simp only [Act.put, List.setIfInBounds_toArray, List.set_cons_zero, List.set_cons_succ])
          refine wpAnyH_take (i := 20) (oi := { dst := some 32, op := Op.binOp BinOp.sub 3 (Operand.tmp 31) (Operand.const (Value.int IntKind.i64 1)) 3, type := 3, pos := "ref.go:44", after := #[{ on := 19, ground := Ground.data }, { on := 15, ground := Ground.guard }], guard := some (15, true) }) (v := undef) rfl (by kernel_rfl) (by kernel_rfl) (by kernel_rfl) (fun _ _ _ h => h) (Or.inr ⟨by rfl, rfl⟩) (by assumption) ?_
          (try simp only [Act.put, List.setIfInBounds_toArray, List.set_cons_zero, List.set_cons_succ])
          refine wpAnyH_take (i := 21) (oi := { dst := some 33, op := Op.indexAddr 22 (Operand.tmp 30) (Operand.tmp 32), type := 0, pos := "ref.go:44", after := #[{ on := 18, ground := Ground.data }, { on := 20, ground := Ground.data }, { on := 15, ground := Ground.guard }], guard := some (15, true) }) (v := undef) rfl (by kernel_rfl) (by kernel_rfl) (by kernel_rfl) (fun _ _ _ h => h) (Or.inr ⟨by rfl, rfl⟩) (by assumption) ?_
          (try simp only [Act.put, List.setIfInBounds_toArray, List.set_cons_zero, List.set_cons_succ])
          refine wpAnyH_take (i := 22) (oi := { dst := some 34, op := Op.fieldAddr 37 (Operand.tmp 33) 0, type := 0, pos := "ref.go:44", after := #[{ on := 21, ground := Ground.data }, { on := 15, ground := Ground.guard }], guard := some (15, true) }) (v := undef) rfl (by kernel_rfl) (by kernel_rfl) (by kernel_rfl) (fun _ _ _ h => h) (Or.inr ⟨by rfl, rfl⟩) (by assumption) ?_
          (try simp only [Act.put, List.setIfInBounds_toArray, List.set_cons_zero, List.set_cons_succ])
          refine wpAnyH_take (i := 23) (oi := { dst := some 35, op := Op.load 3 (Operand.tmp 34), type := 3, pos := "ref.go:44", after := #[{ on := 22, ground := Ground.data }, { on := 15, ground := Ground.guard }], guard := some (15, true) }) (v := undef) rfl (by kernel_rfl) (by kernel_rfl) (by kernel_rfl) (fun _ _ _ h => h) (Or.inr ⟨by rfl, rfl⟩) (by assumption) ?_
          (try simp only [Act.put, List.setIfInBounds_toArray, List.set_cons_zero, List.set_cons_succ])
          refine wpAnyH_take (i := 24) (oi := { dst := some 36, op := Op.binOp BinOp.lss 3 (Operand.tmp 29) (Operand.tmp 35) 3, type := 4, pos := "ref.go:44", after := #[{ on := 17, ground := Ground.data }, { on := 23, ground := Ground.data }, { on := 15, ground := Ground.guard }], guard := some (15, true) }) (v := undef) rfl (by kernel_rfl) (by kernel_rfl) (by kernel_rfl) (fun _ _ _ h => h) (Or.inr ⟨by rfl, rfl⟩) (by assumption) ?_
          (try simp only [Act.put, List.setIfInBounds_toArray, List.set_cons_zero, List.set_cons_succ])
          refine wpAnyH_take (i := 25) (oi := { dst := some 37, op := Op.pick (Operand.tmp 27) (Operand.tmp 36) (Operand.const (Value.bool false)), type := 4, pos := "ref.go:44", after := #[{ on := 15, ground := Ground.data }, { on := 24, ground := Ground.data }, { on := 12, ground := Ground.guard }], guard := some (12, false) }) (v := ?_) rfl (by kernel_rfl) (by kernel_rfl) (by kernel_rfl) (fun _ _ _ h => h) (Or.inl ⟨by rfl, ?_⟩) (by assumption) ?_
          rotate_left
          · intro W hSw; (try dsimp only at hSw); go_simp; (first | done | with_reducible rfl)
          (try simp only [Act.put, List.setIfInBounds_toArray, List.set_cons_zero, List.set_cons_succ])
          refine wpAnyH_take (i := 26) (oi := { dst := some 38, op := Op.pick (Operand.tmp 24) (Operand.const (Value.bool true)) (Operand.tmp 37), type := 4, pos := "ref.go:44", after := #[{ on := 12, ground := Ground.data }, { on := 25, ground := Ground.data }], guard := none }) (v := ?_) rfl (by kernel_rfl) (by kernel_rfl) (by kernel_rfl) (fun _ _ _ h => h) (Or.inl ⟨by rfl, ?_⟩) (by assumption) ?_
          rotate_left
          · intro W hSw; (try dsimp only at hSw); go_simp; (first | done | with_reducible rfl)
          (try simp only [Act.put, List.setIfInBounds_toArray, List.set_cons_zero, List.set_cons_succ])
          refine wpAnyH_take (i := 27) (oi := { dst := some 39, op := Op.move (Operand.tmp 38), type := 4, pos := "ref.go:44", after := #[{ on := 26, ground := Ground.data }, { on := 15, ground := Ground.chain }], guard := none }) (v := ?_) rfl (by kernel_rfl) (by kernel_rfl) (by kernel_rfl) (fun _ _ _ h => h) (Or.inl ⟨by rfl, ?_⟩) (by assumption) ?_
          rotate_left
          · intro W hSw; (try dsimp only at hSw); go_simp; (first | done | with_reducible rfl)
          (try simp only [Act.put, List.setIfInBounds_toArray, List.set_cons_zero, List.set_cons_succ])
          refine wpAnyH_take (i := 28) (oi := { dst := some 40, op := Op.fieldAddr 37 (Operand.tmp 4) 1, type := 0, pos := "ref.go:44", after := #[{ on := 27, ground := Ground.guard }], guard := some (27, false) }) (v := ?_) rfl (by kernel_rfl) (by kernel_rfl) (by kernel_rfl) (fun _ _ _ h => h) (Or.inl ⟨by rfl, ?_⟩) (by assumption) ?_
          rotate_left
          · intro W hSw; (try dsimp only at hSw); go_simp; (first | done | with_reducible rfl)
          (try simp only [Act.put, List.setIfInBounds_toArray, List.set_cons_zero, List.set_cons_succ])
          refine wpAnyH_take (i := 29) (oi := { dst := some 41, op := Op.load 9 (Operand.tmp 40), type := 9, pos := "ref.go:44", after := #[{ on := 28, ground := Ground.data }, { on := 27, ground := Ground.guard }], guard := some (27, false) }) (v := ?_) rfl (by kernel_rfl) (by kernel_rfl) (by kernel_rfl) (fun _ _ _ h => h) (Or.inl ⟨by rfl, ?_⟩) (by assumption) ?_
          rotate_left
          · intro W hSw; (try dsimp only at hSw); go_simp; (first | done | with_reducible rfl)
          (try simp only [Act.put, List.setIfInBounds_toArray, List.set_cons_zero, List.set_cons_succ])
          refine wpAnyH_ready (rs := [30]) (by kernel_rfl) (by simp) (AllReadyH.cons (o := { dst := some 42, op := Op.call { callee := Callee.value (Operand.func 25), args := #[Operand.tmp 41], argTypes := #[9] }, type := 4, pos := "ref.go:44", after := #[{ on := 29, ground := Ground.data }, { on := 27, ground := Ground.chain }, { on := 27, ground := Ground.guard }], guard := some (27, false) }) rfl (fun K hK => ?_) AllReadyH.nil)
          go_simp
          go_at_call 25; refine (rtextC HLG.out _ hxo.2.1).mono ?_; rintro e wq ⟨rfl, rfl⟩
          go_wp2_with fail
          refine hK.out _ _ ?_ (fun hHeld => ?_)
          · (first | assumption | exact vs_drew ‹_› | (refine VS.now ‹_› ?_; assumption))
          clear hK K
          (try simp only [Act.put, List.setIfInBounds_toArray, List.set_cons_zero, List.set_cons_succ])
          refine wpAnyH_take (i := 31) (oi := { dst := some 43, op := Op.unOp UnOp.not 4 (Operand.tmp 42), type := 4, pos := "ref.go:44", after := #[{ on := 30, ground := Ground.data }, { on := 27, ground := Ground.guard }], guard := some (27, false) }) (v := ?_) rfl (by kernel_rfl) (by kernel_rfl) (by kernel_rfl) (fun _ _ _ h => h) (Or.inl ⟨by rfl, ?_⟩) (by assumption) ?_
          rotate_left
          · intro W hSw; (try dsimp only at hSw); go_simp; (first | done | with_reducible rfl)
          (try simp only [Act.put, List.setIfInBounds_toArray, List.set_cons_zero, List.set_cons_succ])
          refine wpAnyH_take (i := 32) (oi := { dst := some 44, op := Op.pick (Operand.tmp 39) (Operand.const (Value.bool true)) (Operand.tmp 43), type := 4, pos := "ref.go:44", after := #[{ on := 27, ground := Ground.data }, { on := 31, ground := Ground.data }], guard := none }) (v := ?_) rfl (by kernel_rfl) (by kernel_rfl) (by kernel_rfl) (fun _ _ _ h => h) (Or.inl ⟨by rfl, ?_⟩) (by assumption) ?_
          rotate_left
          · intro W hSw; (try dsimp only at hSw); go_simp; (first | done | with_reducible rfl)
          (try simp only [Act.put, List.setIfInBounds_toArray, List.set_cons_zero, List.set_cons_succ])
          refine wpAnyH_take (i := 33) (oi := { dst := some 45, op := Op.move (Operand.tmp 44), type := 4, pos := "ref.go:44", after := #[{ on := 32, ground := Ground.data }, { on := 30, ground := Ground.chain }], guard := none }) (v := ?_) rfl (by kernel_rfl) (by kernel_rfl) (by kernel_rfl) (fun _ _ _ h => h) (Or.inl ⟨by rfl, ?_⟩) (by assumption) ?_
          rotate_left
          · intro W hSw; (try dsimp only at hSw); go_simp; (first | done | with_reducible rfl)
          (try simp only [Act.put, List.setIfInBounds_toArray, List.set_cons_zero, List.set_cons_succ])
          refine wpAnyH_take (i := 34) (oi := { dst := some 46, op := Op.fieldAddr 37 (Operand.tmp 4) 2, type := 0, pos := "ref.go:44", after := #[{ on := 33, ground := Ground.guard }], guard := some (33, false) }) (v := ?_) rfl (by kernel_rfl) (by kernel_rfl) (by kernel_rfl) (fun _ _ _ h => h) (Or.inl ⟨by rfl, ?_⟩) (by assumption) ?_
          rotate_left
          · intro W hSw; (try dsimp only at hSw); go_simp; (first | done | with_reducible rfl)
          (try simp only [Act.put, List.setIfInBounds_toArray, List.set_cons_zero, List.set_cons_succ])
          refine wpAnyH_take (i := 35) (oi := { dst := some 47, op := Op.load 32 (Operand.tmp 46), type := 32, pos := "ref.go:44", after := #[{ on := 34, ground := Ground.data }, { on := 33, ground := Ground.guard }], guard := some (33, false) }) (v := ?_) rfl (by kernel_rfl) (by kernel_rfl) (by kernel_rfl) (fun _ _ _ h => h) (Or.inl ⟨by rfl, ?_⟩) (by assumption) ?_
          rotate_left
          · intro W hSw; (try dsimp only at hSw); go_simp; (first | done | with_reducible rfl)
          (try simp only [Act.put, List.setIfInBounds_toArray, List.set_cons_zero, List.set_cons_succ])
          refine wpAnyH_take (i := 36) (oi := { dst := some 48, op := Op.move (Operand.tmp 0), type := 22, pos := "ref.go:44", after := #[{ on := 33, ground := Ground.guard }], guard := some (33, false) }) (v := ?_) rfl (by kernel_rfl) (by kernel_rfl) (by kernel_rfl) (fun _ _ _ h => h) (Or.inl ⟨by rfl, ?_⟩) (by assumption) ?_
          rotate_left
          · intro W hSw; (try dsimp only at hSw); go_simp; (first | done | with_reducible rfl)
          (try simp only [Act.put, List.setIfInBounds_toArray, List.set_cons_zero, List.set_cons_succ])
          refine wpAnyH_take (i := 37) (oi := { dst := some 49, op := Op.move (Operand.tmp 3), type := 3, pos := "ref.go:44", after := #[{ on := 33, ground := Ground.guard }], guard := some (33, false) }) (v := ?_) rfl (by kernel_rfl) (by kernel_rfl) (by kernel_rfl) (fun _ _ _ h => h) (Or.inl ⟨by rfl, ?_⟩) (by assumption) ?_
          rotate_left
          · intro W hSw; (try dsimp only at hSw); go_simp; (first | done | with_reducible rfl)
          (try simp only [Act.put, List.setIfInBounds_toArray, List.set_cons_zero, List.set_cons_succ])
          refine wpAnyH_take (i := 38) (oi := { dst := some 50, op := Op.slice 22 (Operand.tmp 48) none (some (Operand.tmp 49)) none, type := 22, pos := "ref.go:44", after := #[{ on := 36, ground := Ground.data }, { on := 37, ground := Ground.data }, { on := 33, ground := Ground.guard }], guard := some (33, false) }) (v := ?_) rfl (by kernel_rfl) (by kernel_rfl) (by kernel_rfl) (fun _ _ _ h => h) (Or.inl ⟨by rfl, ?_⟩) (by assumption) ?_
          rotate_left
          · intro W hSw; (try dsimp only at hSw); go_simp; (first | done | with_reducible rfl)
          (try simp only [Act.put, List.setIfInBounds_toArray, List.set_cons_zero, List.set_cons_succ])
          refine wpAnyH_take (i := 40) (oi := { dst := some 52, op := Op.fieldAddr 37 (Operand.tmp 4) 0, type := 0, pos := "ref.go:44", after := #[{ on := 33, ground := Ground.guard }], guard := some (33, false) }) (v := ?_) rfl (by kernel_rfl) (by kernel_rfl) (by kernel_rfl) (fun _ _ _ h => h) (Or.inl ⟨by rfl, ?_⟩) (by assumption) ?_
          rotate_left
          · intro W hSw; (try dsimp only at hSw); go_simp; (first | done | with_reducible rfl)
          (try simp only [Act.put, List.setIfInBounds_toArray, List.set_cons_zero, List.set_cons_succ])
          refine wpAnyH_take (i := 41) (oi := { dst := some 53, op := Op.load 3 (Operand.tmp 52), type := 3, pos := "ref.go:44", after := #[{ on := 40, ground := Ground.data }, { on := 33, ground := Ground.guard }], guard := some (33, false) }) (v := ?_) rfl (by kernel_rfl) (by kernel_rfl) (by kernel_rfl) (fun _ _ _ h => h) (Or.inl ⟨by rfl, ?_⟩) (by assumption) ?_
          rotate_left
          · intro W hSw; (try dsimp only at hSw); go_simp; (first | done | with_reducible rfl)
          (try simp only [Act.put, List.setIfInBounds_toArray, List.set_cons_zero, List.set_cons_succ])
          refine wpAnyH_take (i := 42) (oi := { dst := some 54, op := Op.fieldAddr 37 (Operand.tmp 4) 1, type := 0, pos := "ref.go:44", after := #[{ on := 33, ground := Ground.guard }], guard := some (33, false) }) (v := ?_) rfl (by kernel_rfl) (by kernel_rfl) (by kernel_rfl) (fun _ _ _ h => h) (Or.inl ⟨by rfl, ?_⟩) (by assumption) ?_
          rotate_left
          · intro W hSw; (try dsimp only at hSw); go_simp; (first | done | with_reducible rfl)
          (try simp only [Act.put, List.setIfInBounds_toArray, List.set_cons_zero, List.set_cons_succ])
          refine wpAnyH_take (i := 43) (oi := { dst := some 55, op := Op.load 9 (Operand.tmp 54), type := 9, pos := "ref.go:44", after := #[{ on := 42, ground := Ground.data }, { on := 33, ground := Ground.guard }], guard := some (33, false) }) (v := ?_) rfl (by kernel_rfl) (by kernel_rfl) (by kernel_rfl) (fun _ _ _ h => h) (Or.inl ⟨by rfl, ?_⟩) (by assumption) ?_
          rotate_left
          · intro W hSw; (try dsimp only at hSw); go_simp; (first | done | with_reducible rfl)
          (try simp only [Act.put, List.setIfInBounds_toArray, List.set_cons_zero, List.set_cons_succ])
          refine wpAnyH_ready (rs := [39]) (by kernel_rfl) (by simp) (AllReadyH.cons (o := { dst := some 51, op := Op.call { callee := Callee.value (Operand.func 19), args := #[Operand.tmp 50], argTypes := #[22] }, type := 32, pos := "ref.go:44", after := #[{ on := 38, ground := Ground.data }, { on := 33, ground := Ground.chain }, { on := 33, ground := Ground.guard }], guard := some (33, false) }) rfl (fun K hK => ?_) AllReadyH.nil)
          go_simp
          go_at_call 19; refine (rsumC (l := l) (k := 0) hkl HSM.out _ _ _ (v1i (by assumption)).1 hl).mono ?_; rintro e wq ⟨rfl, rfl⟩
          go_wp2_with fail
          refine hK.out _ _ ?_ (fun hHeld => ?_)
          · (first | assumption | exact vs_drew ‹_› | (refine VS.now ‹_› ?_; assumption))
          clear hK K
          (try simp only [Act.put, List.setIfInBounds_toArray, List.set_cons_zero, List.set_cons_succ])
          refine wpAnyH_ready (rs := [44]) (by kernel_rfl) (by simp) (AllReadyH.cons (o := { dst := some 56, op := Op.call { callee := Callee.value (Operand.func 26), args := #[Operand.tmp 51, Operand.tmp 53, Operand.tmp 55], argTypes := #[32, 3, 9] }, type := 32, pos := "ref.go:44", after := #[{ on := 39, ground := Ground.data }, { on := 41, ground := Ground.data }, { on := 43, ground := Ground.data }, { on := 39, ground := Ground.chain }, { on := 33, ground := Ground.guard }], guard := some (33, false) }) rfl (fun K hK => ?_) AllReadyH.nil)
          go_simp
          go_at_call 26; refine (hdg _).mono ?_; rintro e wq ⟨rfl, hq⟩
          go_wp2_with fail
          refine hK.out _ _ ?_ (fun hHeld => ?_)
          · (first | assumption | exact vs_drew ‹_› | (refine VS.now ‹_› ?_; assumption))
          clear hK K
          (try simp only [Act.put, List.setIfInBounds_toArray, List.set_cons_zero, List.set_cons_succ])
          refine wpAnyH_take (i := 45) (oi := { dst := some 57, op := Op.binOp BinOp.neq 32 (Operand.tmp 47) (Operand.tmp 56) 32, type := 4, pos := "ref.go:44", after := #[{ on := 35, ground := Ground.data }, { on := 44, ground := Ground.data }, { on := 33, ground := Ground.guard }], guard := some (33, false) }) (v := ?_) rfl (by kernel_rfl) (by kernel_rfl) (by kernel_rfl) (fun _ _ _ h => h) (Or.inl ⟨by rfl, ?_⟩) (by assumption) ?_
          rotate_left
          · intro W hSw; (try dsimp only at hSw); go_simp; (first | done | with_reducible rfl)
          (try simp only [Act.put, List.setIfInBounds_toArray, List.set_cons_zero, List.set_cons_succ])
          refine wpAnyH_take (i := 46) (oi := { dst := some 58, op := Op.pick (Operand.tmp 45) (Operand.const (Value.bool true)) (Operand.tmp 57), type := 4, pos := "ref.go:44", after := #[{ on := 33, ground := Ground.data }, { on := 45, ground := Ground.data }], guard := none }) (v := ?_) rfl (by kernel_rfl) (by kernel_rfl) (by kernel_rfl) (fun _ _ _ h => h) (Or.inl ⟨by rfl, ?_⟩) (by assumption) ?_
          rotate_left
          · intro W hSw; (try dsimp only at hSw); go_simp; (first | done | with_reducible rfl)
          (try simp only [Act.put, List.setIfInBounds_toArray, List.set_cons_zero, List.set_cons_succ])
          refine wpAnyH_done (by kernel_rfl) ?_ _
          all_goals (go_wp2_with fail)
          all_goals (go_ret; exact ⟨ret_int (by have h := HR.out; omega), (v1i (by assumption)).2.1⟩)
        · have HR := Lib.hid (HK.out hg)
          have ht2 := tmB_iff.1 htm
          have t1 : decide (x.time < 0) = false := by simp; omega
          have t2 : decide (1073741824 < x.time) = false := by simp; omega
          have HLG := Lib.hid hlg
          have hxl := (legB_iff.1 hlg).1.2
          have hdg := fun W => rdigest_any sm x.time x.text W hsm hxo.1 (by omega)
          generalize dgst sm x.time x.text = d at hdg hsum
          have s1 : ((x.sum : Int) != (d : Int)) = false := by simp; omega
          clear hsum
          clear HB HK hg htm hlg
          go_wp2_with fail
          have hvs := vs_new (A := some ⟨b, off, none⟩) (l := l) (b := b) x 37 hrw hbr (E.now hbr) hbl
          clear hrw x0 x1 x2
          generalize wr.alloc (.cells #[.int .i64 x.time, .string (bs x.text), .int .u64 (x.sum : Int)] 37) = w1 at hvs ⊢
          generalize wr.heap.size = g at hvs ⊢
          have hS : w1.cell? ⟨g, 0, none⟩ = some (.int .i64 x.time) ∧ w1.cell? ⟨g, 1, none⟩ = some (.string (bs x.text)) ∧ w1.cell? ⟨g, 2, none⟩ = some (.int .u64 (x.sum : Int)) ∧ VI w (some ⟨b, off, none⟩) l g b w1 := hvs
          clear hvs
          refine wp_region_held_drew (S := (fun w' => w'.cell? ⟨g, 0, none⟩ = some (.int .i64 x.time) ∧ w'.cell? ⟨g, 1, none⟩ = some (.string (bs x.text)) ∧ w'.cell? ⟨g, 2, none⟩ = some (.int .u64 (x.sum : Int)) ∧ VI w (some ⟨b, off, none⟩) l g b w')) (by kernel_rfl) (vs_drew hS) (fun hHeld => ?_)
          refine wpAnyH_take (i := 0) (oi := { dst := some 12, op := Op.move (Operand.tmp 3), type := 3, pos := "ref.go:44", after := #[], guard := none }) (v := ?_) rfl (by kernel_rfl) (by kernel_rfl) (by kernel_rfl) (fun _ _ _ h => h) (Or.inl ⟨by rfl, ?_⟩) (by assumption) ?_
          rotate_left
          · intro W hSw; (try dsimp only at hSw); go_simp; (first | done | with_reducible rfl)
          (try simp only [Act.put, List.setIfInBounds_toArray, List.set_cons_zero, List.set_cons_succ])
          refine wpAnyH_take (i := 1) (oi := { dst := some 13, op := Op.binOp BinOp.eql 3 (Operand.tmp 12) (Operand.const (Value.int IntKind.i64 512)) 3, type := 4, pos := "ref.go:44", after := #[{ on := 0, ground := Ground.data }], guard := none }) (v := ?_) rfl (by kernel_rfl) (by kernel_rfl) (by kernel_rfl) (fun _ _ _ h => h) (Or.inl ⟨by rfl, ?_⟩) (by assumption) ?_
          rotate_left
          · intro W hSw; (try dsimp only at hSw); go_simp; (first | done | with_reducible rfl)
          (try simp only [Act.put, List.setIfInBounds_toArray, List.set_cons_zero, List.set_cons_succ])
          refine wpAnyH_take (i := 2) (oi := { dst := some 14, op := Op.move (Operand.tmp 13), type := 4, pos := "ref.go:44", after := #[{ on := 1, ground := Ground.data }], guard := none }) (v := ?_) rfl (by kernel_rfl) (by kernel_rfl) (by kernel_rfl) (fun _ _ _ h => h) (Or.inl ⟨by rfl, ?_⟩) (by assumption) ?_
          rotate_left
          · intro W hSw; (try dsimp only at hSw); go_simp; (first | done | with_reducible rfl)
          (try simp only [Act.put, List.setIfInBounds_toArray, List.set_cons_zero, List.set_cons_succ])
          refine wpAnyH_take (i := 3) (oi := { dst := some 15, op := Op.fieldAddr 37 (Operand.tmp 4) 0, type := 0, pos := "ref.go:44", after := #[{ on := 2, ground := Ground.guard }], guard := some (2, false) }) (v := ?_) rfl (by kernel_rfl) (by kernel_rfl) (by kernel_rfl) (fun _ _ _ h => h) (Or.inl ⟨by rfl, ?_⟩) (by assumption) ?_
          rotate_left
          · intro W hSw; (try dsimp only at hSw); go_simp; (first | done | with_reducible rfl)
          (try simp only [Act.put, List.setIfInBounds_toArray, List.set_cons_zero, List.set_cons_succ])
          refine wpAnyH_take (i := 4) (oi := { dst := some 16, op := Op.load 3 (Operand.tmp 15), type := 3, pos := "ref.go:44", after := #[{ on := 3, ground := Ground.data }, { on := 2, ground := Ground.guard }], guard := some (2, false) }) (v := ?_) rfl (by kernel_rfl) (by kernel_rfl) (by kernel_rfl) (fun _ _ _ h => h) (Or.inl ⟨by rfl, ?_⟩) (by assumption) ?_
          rotate_left
          · intro W hSw; (try dsimp only at hSw); go_simp; (first | done | with_reducible rfl)
          (try simp only [Act.put, List.setIfInBounds_toArray, List.set_cons_zero, List.set_cons_succ])
          refine wpAnyH_take (i := 5) (oi := { dst := some 17, op := Op.binOp BinOp.lss 3 (Operand.tmp 16) (Operand.const (Value.int IntKind.i64 0)) 3, type := 4, pos := "ref.go:44", after := #[{ on := 4, ground := Ground.data }, { on := 2, ground := Ground.guard }], guard := some (2, false) }) (v := ?_) rfl (by kernel_rfl) (by kernel_rfl) (by kernel_rfl) (fun _ _ _ h => h) (Or.inl ⟨by rfl, ?_⟩) (by assumption) ?_
          rotate_left
          · intro W hSw; (try dsimp only at hSw); go_simp; (first | done | with_reducible rfl)
          (try simp only [Act.put, List.setIfInBounds_toArray, List.set_cons_zero, List.set_cons_succ])
          refine wpAnyH_take (i := 6) (oi := { dst := some 18, op := Op.pick (Operand.tmp 14) (Operand.const (Value.bool true)) (Operand.tmp 17), type := 4, pos := "ref.go:44", after := #[{ on := 2, ground := Ground.data }, { on := 5, ground := Ground.data }], guard := none }) (v := ?_) rfl (by kernel_rfl) (by kernel_rfl) (by kernel_rfl) (fun _ _ _ h => h) (Or.inl ⟨by rfl, ?_⟩) (by assumption) ?_
          rotate_left
          · intro W hSw; (try dsimp only at hSw); go_simp; (first | done | with_reducible rfl)
          (try simp only [Act.put, List.setIfInBounds_toArray, List.set_cons_zero, List.set_cons_succ])
          refine wpAnyH_take (i := 7) (oi := { dst := some 19, op := Op.move (Operand.tmp 18), type := 4, pos := "ref.go:44", after := #[{ on := 6, ground := Ground.data }, { on := 2, ground := Ground.chain }], guard := none }) (v := ?_) rfl (by kernel_rfl) (by kernel_rfl) (by kernel_rfl) (fun _ _ _ h => h) (Or.inl ⟨by rfl, ?_⟩) (by assumption) ?_
          rotate_left
          · intro W hSw; (try dsimp only at hSw); go_simp; (first | done | with_reducible rfl)
          (try simp only [Act.put, List.setIfInBounds_toArray, List.set_cons_zero, List.set_cons_succ])
          refine wpAnyH_take (i := 8) (oi := { dst := some 20, op := Op.fieldAddr 37 (Operand.tmp 4) 0, type := 0, pos := "ref.go:44", after := #[{ on := 7, ground := Ground.guard }], guard := some (7, false) }) (v := ?_) rfl (by kernel_rfl) (by kernel_rfl) (by kernel_rfl) (fun _ _ _ h => h) (Or.inl ⟨by rfl, ?_⟩) (by assumption) ?_
          rotate_left
          · intro W hSw; (try dsimp only at hSw); go_simp; (first | done | with_reducible rfl)
          (try simp only [Act.put, List.setIfInBounds_toArray, List.set_cons_zero, List.set_cons_succ])
          refine wpAnyH_take (i := 9) (oi := { dst := some 21, op := Op.load 3 (Operand.tmp 20), type := 3, pos := "ref.go:44", after := #[{ on := 8, ground := Ground.data }, { on := 7, ground := Ground.guard }], guard := some (7, false) }) (v := ?_) rfl (by kernel_rfl) (by kernel_rfl) (by kernel_rfl) (fun _ _ _ h => h) (Or.inl ⟨by rfl, ?_⟩) (by assumption) ?_
          rotate_left
          · intro W hSw; (try dsimp only at hSw); go_simp; (first | done | with_reducible rfl)
          (try simp only [Act.put, List.setIfInBounds_toArray, List.set_cons_zero, List.set_cons_succ])
          refine wpAnyH_take (i := 10) (oi := { dst := some 22, op := Op.binOp BinOp.gtr 3 (Operand.tmp 21) (Operand.const (Value.int IntKind.i64 1073741824)) 3, type := 4, pos := "ref.go:44", after := #[{ on := 9, ground := Ground.data }, { on := 7, ground := Ground.guard }], guard := some (7, false) }) (v := ?_) rfl (by kernel_rfl) (by kernel_rfl) (by kernel_rfl) (fun _ _ _ h => h) (Or.inl ⟨by rfl, ?_⟩) (by assumption) ?_
          rotate_left
          · intro W hSw; (try dsimp only at hSw); go_simp; (first | done | with_reducible rfl)
          (try simp only [Act.put, List.setIfInBounds_toArray, List.set_cons_zero, List.set_cons_succ])
          refine wpAnyH_take (i := 11) (oi := { dst := some 23, op := Op.pick (Operand.tmp 19) (Operand.const (Value.bool true)) (Operand.tmp 22), type := 4, pos := "ref.go:44", after := #[{ on := 7, ground := Ground.data }, { on := 10, ground := Ground.data }], guard := none }) (v := ?_) rfl (by kernel_rfl) (by kernel_rfl) (by kernel_rfl) (fun _ _ _ h => h) (Or.inl ⟨by rfl, ?_⟩) (by assumption) ?_
          rotate_left
          · intro W hSw; (try dsimp only at hSw); go_simp; (first | done | with_reducible rfl)
          (try simp only [Act.put, List.setIfInBounds_toArray, List.set_cons_zero, List.set_cons_succ])
          refine wpAnyH_take (i := 12) (oi := { dst := some 24, op := Op.move (Operand.tmp 23), type := 4, pos := "ref.go:44", after := #[{ on := 11, ground := Ground.data }, { on := 7, ground := Ground.chain }], guard := none }) (v := ?_) rfl (by kernel_rfl) (by kernel_rfl) (by kernel_rfl) (fun _ _ _ h => h) (Or.inl ⟨by rfl, ?_⟩) (by assumption) ?_
          rotate_left
          · intro W hSw; (try dsimp only at hSw); go_simp; (first | done | with_reducible rfl)
          (try simp only [Act.put, List.setIfInBounds_toArray, List.set_cons_zero, List.set_cons_succ])
          refine wpAnyH_take (i := 13) (oi := { dst := some 25, op := Op.move (Operand.tmp 3), type := 3, pos := "ref.go:44", after := #[{ on := 12, ground := Ground.guard }], guard := some (12, false) }) (v := ?_) rfl (by kernel_rfl) (by kernel_rfl) (by kernel_rfl) (fun _ _ _ h => h) (Or.inl ⟨by rfl, ?_⟩) (by assumption) ?_
          rotate_left
          · intro W hSw; (try dsimp only at hSw); go_simp; (first | done | with_reducible rfl)
          (try simp only [Act.put, List.setIfInBounds_toArray, List.set_cons_zero, List.set_cons_succ])
          refine wpAnyH_take (i := 14) (oi := { dst := some 26, op := Op.binOp BinOp.gtr 3 (Operand.tmp 25) (Operand.const (Value.int IntKind.i64 0)) 3, type := 4, pos := "ref.go:44", after := #[{ on := 13, ground := Ground.data }, { on := 12, ground := Ground.guard }], guard := some (12, false) }) (v := ?_) rfl (by kernel_rfl) (by kernel_rfl) (by kernel_rfl) (fun _ _ _ h => h) (Or.inl ⟨by rfl, ?_⟩) (by assumption) ?_
          rotate_left
          · intro W hSw; (try dsimp only at hSw); go_simp; (first | done | with_reducible rfl)
          (try simp only [Act.put, List.setIfInBounds_toArray, List.set_cons_zero, List.set_cons_succ])
          refine wpAnyH_take (i := 15) (oi := { dst := some 27, op := Op.move (Operand.tmp 26), type := 4, pos := "ref.go:44", after := #[{ on := 14, ground := Ground.data }, { on := 12, ground := Ground.chain }, { on := 12, ground := Ground.guard }], guard := some (12, false) }) (v := ?_) rfl (by kernel_rfl) (by kernel_rfl) (by kernel_rfl) (fun _ _ _ h => h) (Or.inl ⟨by rfl, ?_⟩) (by assumption) ?_
          rotate_left
          · intro W hSw; (try dsimp only at hSw); go_simp; (first | done | with_reducible rfl)
          (try simp only [Act.put, List.setIfInBounds_toArray, List.set_cons_zero, List.set_cons_succ])
          refine wpAnyH_take (i := 16) (oi := { dst := some 28, op := Op.fieldAddr 37 (Operand.tmp 4) 0, type := 0, pos := "ref.go:44", after := #[{ on := 15, ground := Ground.guard }], guard := some (15, true) }) (v := undef) rfl (by kernel_rfl) (by kernel_rfl) (by kernel_rfl) (fun _ _ _ h => h) (Or.inr ⟨by rfl, rfl⟩) (by assumption) ?_
          (try simp only [Act.put, List.setIfInBounds_toArray, List.set_cons_zero, List.set_cons_succ])
          refine wpAnyH_take (i := 17) (oi := { dst := some 29, op := Op.load 3 (Operand.tmp 28), type := 3, pos := "ref.go:44", after := #[{ on := 16, ground := Ground.data }, { on := 15, ground := Ground.guard }], guard := some (15, true) }) (v := undef) rfl (by kernel_rfl) (by kernel_rfl) (by kernel_rfl) (fun _ _ _ h => h) (Or.inr ⟨by rfl, rfl⟩) (by assumption) ?_
          (try simp only [Act.put, List.setIfInBounds_toArray, List.set_cons_zero, List.set_cons_succ])
          refine wpAnyH_take (i := 18) (oi := { dst := some 30, op := Op.move (Operand.tmp 0), type := 22, pos := "ref.go:44", after := #[{ on := 15, ground := Ground.guard }], guard := some (15, true) }) (v := undef) rfl (by kernel_rfl) (by kernel_rfl) (by kernel_rfl) (fun _ _ _ h => h) (Or.inr ⟨by rfl, rfl⟩) (by assumption) ?_
          (try simp only [Act.put, List.setIfInBounds_toArray, List.set_cons_zero, List.set_cons_succ])
          refine wpAnyH_take (i := 19) (oi := { dst := some 31, op := Op.move (Operand.tmp 3), type := 3, pos := "ref.go:44", after := #[{ on := 15, ground := Ground.guard }], guard := some (15, true) }) (v := undef) rfl (by kernel_rfl) (by kernel_rfl) (by kernel_rfl) (fun _ _ _ h => h) (Or.inr ⟨by rfl, rfl⟩) (by assumption) ?_
          (try simp only [Act.put, List.setIfInBounds_toArray, List.set_cons_zero, List.set_cons_succ])
          refine wpAnyH_take (i := 20) (oi := { dst := some 32, op := Op.binOp BinOp.sub 3 (Operand.tmp 31) (Operand.const (Value.int IntKind.i64 1)) 3, type := 3, pos := "ref.go:44", after := #[{ on := 19, ground := Ground.data }, { on := 15, ground := Ground.guard }], guard := some (15, true) }) (v := undef) rfl (by kernel_rfl) (by kernel_rfl) (by kernel_rfl) (fun _ _ _ h => h) (Or.inr ⟨by rfl, rfl⟩) (by assumption) ?_
          (try simp only [Act.put, List.setIfInBounds_toArray, List.set_cons_zero, List.set_cons_succ])
          refine wpAnyH_take (i := 21) (oi := { dst := some 33, op := Op.indexAddr 22 (Operand.tmp 30) (Operand.tmp 32), type := 0, pos := "ref.go:44", after := #[{ on := 18, ground := Ground.data }, { on := 20, ground := Ground.data }, { on := 15, ground := Ground.guard }], guard := some (15, true) }) (v := undef) rfl (by kernel_rfl) (by kernel_rfl) (by kernel_rfl) (fun _ _ _ h => h) (Or.inr ⟨by rfl, rfl⟩) (by assumption) ?_
          (try simp only [Act.put, List.setIfInBounds_toArray, List.set_cons_zero, List.set_cons_succ])
          refine wpAnyH_take (i := 22) (oi := { dst := some 34, op := Op.fieldAddr 37 (Operand.tmp 33) 0, type := 0, pos := "ref.go:44", after := #[{ on := 21, ground := Ground.data }, { on := 15, ground := Ground.guard }], guard := some (15, true) }) (v := undef) rfl (by kernel_rfl) (by kernel_rfl) (by kernel_rfl) (fun _ _ _ h => h) (Or.inr ⟨by rfl, rfl⟩) (by assumption) ?_
          (try simp only [Act.put, List.setIfInBounds_toArray, List.set_cons_zero, List.set_cons_succ])
          refine wpAnyH_take (i := 23) (oi := { dst := some 35, op := Op.load 3 (Operand.tmp 34), type := 3, pos := "ref.go:44", after := #[{ on := 22, ground := Ground.data }, { on := 15, ground := Ground.guard }], guard := some (15, true) }) (v := undef) rfl (by kernel_rfl) (by kernel_rfl) (by kernel_rfl) (fun _ _ _ h => h) (Or.inr ⟨by rfl, rfl⟩) (by assumption) ?_
          (try simp only [Act.put, List.setIfInBounds_toArray, List.set_cons_zero, List.set_cons_succ])
          refine wpAnyH_take (i := 24) (oi := { dst := some 36, op := Op.binOp BinOp.lss 3 (Operand.tmp 29) (Operand.tmp 35) 3, type := 4, pos := "ref.go:44", after := #[{ on := 17, ground := Ground.data }, { on := 23, ground := Ground.data }, { on := 15, ground := Ground.guard }], guard := some (15, true) }) (v := undef) rfl (by kernel_rfl) (by kernel_rfl) (by kernel_rfl) (fun _ _ _ h => h) (Or.inr ⟨by rfl, rfl⟩) (by assumption) ?_
          (try simp only [Act.put, List.setIfInBounds_toArray, List.set_cons_zero, List.set_cons_succ])
          refine wpAnyH_take (i := 25) (oi := { dst := some 37, op := Op.pick (Operand.tmp 27) (Operand.tmp 36) (Operand.const (Value.bool false)), type := 4, pos := "ref.go:44", after := #[{ on := 15, ground := Ground.data }, { on := 24, ground := Ground.data }, { on := 12, ground := Ground.guard }], guard := some (12, false) }) (v := ?_) rfl (by kernel_rfl) (by kernel_rfl) (by kernel_rfl) (fun _ _ _ h => h) (Or.inl ⟨by rfl, ?_⟩) (by assumption) ?_
          rotate_left
          · intro W hSw; (try dsimp only at hSw); go_simp; (first | done | with_reducible rfl)
          (try simp only [Act.put, List.setIfInBounds_toArray, List.set_cons_zero, List.set_cons_succ])
          refine wpAnyH_take (i := 26) (oi := { dst := some 38, op := Op.pick (Operand.tmp 24) (Operand.const (Value.bool true)) (Operand.tmp 37), type := 4, pos := "ref.go:44", after := #[{ on := 12, ground := Ground.data }, { on := 25, ground := Ground.data }], guard := none }) (v := ?_) rfl (by kernel_rfl) (by kernel_rfl) (by kernel_rfl) (fun _ _ _ h => h) (Or.inl ⟨by rfl, ?_⟩) (by assumption) ?_
          rotate_left
          · intro W hSw; (try dsimp only at hSw); go_simp; (first | done | with_reducible rfl)
          (try simp only [Act.put, List.setIfInBounds_toArray, List.set_cons_zero, List.set_cons_succ])
          refine wpAnyH_take (i := 27) (oi := { dst := some 39, op := Op.move (Operand.tmp 38), type := 4, pos := "ref.go:44", after := #[{ on := 26, ground := Ground.data }, { on := 15, ground := Ground.chain }], guard := none }) (v := ?_) rfl (by kernel_rfl) (by kernel_rfl) (by kernel_rfl) (fun _ _ _ h => h) (Or.inl ⟨by rfl, ?_⟩) (by assumption) ?_
          rotate_left
          · intro W hSw; (try dsimp only at hSw); go_simp; (first | done | with_reducible rfl)
          (try simp only [Act.put, List.setIfInBounds_toArray, List.set_cons_zero, List.set_cons_succ])
          refine wpAnyH_take (i := 28) (oi := { dst := some 40, op := Op.fieldAddr 37 (Operand.tmp 4) 1, type := 0, pos := "ref.go:44", after := #[{ on := 27, ground := Ground.guard }], guard := some (27, false) }) (v := ?_) rfl (by kernel_rfl) (by kernel_rfl) (by kernel_rfl) (fun _ _ _ h => h) (Or.inl ⟨by rfl, ?_⟩) (by assumption) ?_
          rotate_left
          · intro W hSw; (try dsimp only at hSw); go_simp; (first | done | with_reducible rfl)
          (try simp only [Act.put, List.setIfInBounds_toArray, List.set_cons_zero, List.set_cons_succ])
          refine wpAnyH_take (i := 29) (oi := { dst := some 41, op := Op.load 9 (Operand.tmp 40), type := 9, pos := "ref.go:44", after := #[{ on := 28, ground := Ground.data }, { on := 27, ground := Ground.guard }], guard := some (27, false) }) (v := ?_) rfl (by kernel_rfl) (by kernel_rfl) (by kernel_rfl) (fun _ _ _ h => h) (Or.inl ⟨by rfl, ?_⟩) (by assumption) ?_
          rotate_left
          · intro W hSw; (try dsimp only at hSw); go_simp; (first | done | with_reducible rfl)
          (try simp only [Act.put, List.setIfInBounds_toArray, List.set_cons_zero, List.set_cons_succ])
          refine wpAnyH_ready (rs := [30]) (by kernel_rfl) (by simp) (AllReadyH.cons (o := { dst := some 42, op := Op.call { callee := Callee.value (Operand.func 25), args := #[Operand.tmp 41], argTypes := #[9] }, type := 4, pos := "ref.go:44", after := #[{ on := 29, ground := Ground.data }, { on := 27, ground := Ground.chain }, { on := 27, ground := Ground.guard }], guard := some (27, false) }) rfl (fun K hK => ?_) AllReadyH.nil)
          go_simp
          go_at_call 25; refine (rtextC HLG.out _ hxo.2.1).mono ?_; rintro e wq ⟨rfl, rfl⟩
          go_wp2_with fail
          refine hK.out _ _ ?_ (fun hHeld => ?_)
          · (first | assumption | exact vs_drew ‹_› | (refine VS.now ‹_› ?_; assumption))
          clear hK K
          (try simp only [Act.put, List.setIfInBounds_toArray, List.set_cons_zero, List.set_cons_succ])
          refine wpAnyH_take (i := 31) (oi := { dst := some 43, op := Op.unOp UnOp.not 4 (Operand.tmp 42), type := 4, pos := "ref.go:44", after := #[{ on := 30, ground := Ground.data }, { on := 27, ground := Ground.guard }], guard := some (27, false) }) (v := ?_) rfl (by kernel_rfl) (by kernel_rfl) (by kernel_rfl) (fun _ _ _ h => h) (Or.inl ⟨by rfl, ?_⟩) (by assumption) ?_
          rotate_left
          · intro W hSw; (try dsimp only at hSw); go_simp; (first | done | with_reducible rfl)
          (try simp only [Act.put, List.setIfInBounds_toArray, List.set_cons_zero, List.set_cons_succ])
          refine wpAnyH_take (i := 32) (oi := { dst := some 44, op := Op.pick (Operand.tmp 39) (Operand.const (Value.bool true)) (Operand.tmp 43), type := 4, pos := "ref.go:44", after := #[{ on := 27, ground := Ground.data }, { on := 31, ground := Ground.data }], guard := none }) (v := ?_) rfl (by kernel_rfl) (by kernel_rfl) (by kernel_rfl) (fun _ _ _ h => h) (Or.inl ⟨by rfl, ?_⟩) (by assumption) ?_
          rotate_left
          · intro W hSw; (try dsimp only at hSw); go_simp; (first | done | with_reducible rfl)
          (try simp only [Act.put, List.setIfInBounds_toArray, List.set_cons_zero, List.set_cons_succ])
          refine wpAnyH_take (i := 33) (oi := { dst := some 45, op := Op.move (Operand.tmp 44), type := 4, pos := "ref.go:44", after := #[{ on := 32, ground := Ground.data }, { on := 30, ground := Ground.chain }], guard := none }) (v := ?_) rfl (by kernel_rfl) (by kernel_rfl) (by kernel_rfl) (fun _ _ _ h => h) (Or.inl ⟨by rfl, ?_⟩) (by assumption) ?_
          rotate_left
          · intro W hSw; (try dsimp only at hSw); go_simp; (first | done | with_reducible rfl)
          (try simp only [Act.put, List.setIfInBounds_toArray, List.set_cons_zero, List.set_cons_succ])
          refine wpAnyH_take (i := 34) (oi := { dst := some 46, op := Op.fieldAddr 37 (Operand.tmp 4) 2, type := 0, pos := "ref.go:44", after := #[{ on := 33, ground := Ground.guard }], guard := some (33, false) }) (v := ?_) rfl (by kernel_rfl) (by kernel_rfl) (by kernel_rfl) (fun _ _ _ h => h) (Or.inl ⟨by rfl, ?_⟩) (by assumption) ?_
          rotate_left
          · intro W hSw; (try dsimp only at hSw); go_simp; (first | done | with_reducible rfl)
          (try simp only [Act.put, List.setIfInBounds_toArray, List.set_cons_zero, List.set_cons_succ])
          refine wpAnyH_take (i := 35) (oi := { dst := some 47, op := Op.load 32 (Operand.tmp 46), type := 32, pos := "ref.go:44", after := #[{ on := 34, ground := Ground.data }, { on := 33, ground := Ground.guard }], guard := some (33, false) }) (v := ?_) rfl (by kernel_rfl) (by kernel_rfl) (by kernel_rfl) (fun _ _ _ h => h) (Or.inl ⟨by rfl, ?_⟩) (by assumption) ?_
          rotate_left
          · intro W hSw; (try dsimp only at hSw); go_simp; (first | done | with_reducible rfl)
          (try simp only [Act.put, List.setIfInBounds_toArray, List.set_cons_zero, List.set_cons_succ])
          refine wpAnyH_take (i := 36) (oi := { dst := some 48, op := Op.move (Operand.tmp 0), type := 22, pos := "ref.go:44", after := #[{ on := 33, ground := Ground.guard }], guard := some (33, false) }) (v := ?_) rfl (by kernel_rfl) (by kernel_rfl) (by kernel_rfl) (fun _ _ _ h => h) (Or.inl ⟨by rfl, ?_⟩) (by assumption) ?_
          rotate_left
          · intro W hSw; (try dsimp only at hSw); go_simp; (first | done | with_reducible rfl)
          (try simp only [Act.put, List.setIfInBounds_toArray, List.set_cons_zero, List.set_cons_succ])
          refine wpAnyH_take (i := 37) (oi := { dst := some 49, op := Op.move (Operand.tmp 3), type := 3, pos := "ref.go:44", after := #[{ on := 33, ground := Ground.guard }], guard := some (33, false) }) (v := ?_) rfl (by kernel_rfl) (by kernel_rfl) (by kernel_rfl) (fun _ _ _ h => h) (Or.inl ⟨by rfl, ?_⟩) (by assumption) ?_
          rotate_left
          · intro W hSw; (try dsimp only at hSw); go_simp; (first | done | with_reducible rfl)
          (try simp only [Act.put, List.setIfInBounds_toArray, List.set_cons_zero, List.set_cons_succ])
          refine wpAnyH_take (i := 38) (oi := { dst := some 50, op := Op.slice 22 (Operand.tmp 48) none (some (Operand.tmp 49)) none, type := 22, pos := "ref.go:44", after := #[{ on := 36, ground := Ground.data }, { on := 37, ground := Ground.data }, { on := 33, ground := Ground.guard }], guard := some (33, false) }) (v := ?_) rfl (by kernel_rfl) (by kernel_rfl) (by kernel_rfl) (fun _ _ _ h => h) (Or.inl ⟨by rfl, ?_⟩) (by assumption) ?_
          rotate_left
          · intro W hSw; (try dsimp only at hSw); go_simp; (first | done | with_reducible rfl)
          (try simp only [Act.put, List.setIfInBounds_toArray, List.set_cons_zero, List.set_cons_succ])
          refine wpAnyH_take (i := 40) (oi := { dst := some 52, op := Op.fieldAddr 37 (Operand.tmp 4) 0, type := 0, pos := "ref.go:44", after := #[{ on := 33, ground := Ground.guard }], guard := some (33, false) }) (v := ?_) rfl (by kernel_rfl) (by kernel_rfl) (by kernel_rfl) (fun _ _ _ h => h) (Or.inl ⟨by rfl, ?_⟩) (by assumption) ?_
          rotate_left
          · intro W hSw; (try dsimp only at hSw); go_simp; (first | done | with_reducible rfl)
          (try simp only [Act.put, List.setIfInBounds_toArray, List.set_cons_zero, List.set_cons_succ])
          refine wpAnyH_take (i := 41) (oi := { dst := some 53, op := Op.load 3 (Operand.tmp 52), type := 3, pos := "ref.go:44", after := #[{ on := 40, ground := Ground.data }, { on := 33, ground := Ground.guard }], guard := some (33, false) }) (v := ?_) rfl (by kernel_rfl) (by kernel_rfl) (by kernel_rfl) (fun _ _ _ h => h) (Or.inl ⟨by rfl, ?_⟩) (by assumption) ?_
          rotate_left
          · intro W hSw; (try dsimp only at hSw); go_simp; (first | done | with_reducible rfl)
          (try simp only [Act.put, List.setIfInBounds_toArray, List.set_cons_zero, List.set_cons_succ])
          refine wpAnyH_take (i := 42) (oi := { dst := some 54, op := Op.fieldAddr 37 (Operand.tmp 4) 1, type := 0, pos := "ref.go:44", after := #[{ on := 33, ground := Ground.guard }], guard := some (33, false) }) (v := ?_) rfl (by kernel_rfl) (by kernel_rfl) (by kernel_rfl) (fun _ _ _ h => h) (Or.inl ⟨by rfl, ?_⟩) (by assumption) ?_
          rotate_left
          · intro W hSw; (try dsimp only at hSw); go_simp; (first | done | with_reducible rfl)
          (try simp only [Act.put, List.setIfInBounds_toArray, List.set_cons_zero, List.set_cons_succ])
          refine wpAnyH_take (i := 43) (oi := { dst := some 55, op := Op.load 9 (Operand.tmp 54), type := 9, pos := "ref.go:44", after := #[{ on := 42, ground := Ground.data }, { on := 33, ground := Ground.guard }], guard := some (33, false) }) (v := ?_) rfl (by kernel_rfl) (by kernel_rfl) (by kernel_rfl) (fun _ _ _ h => h) (Or.inl ⟨by rfl, ?_⟩) (by assumption) ?_
          rotate_left
          · intro W hSw; (try dsimp only at hSw); go_simp; (first | done | with_reducible rfl)
          (try simp only [Act.put, List.setIfInBounds_toArray, List.set_cons_zero, List.set_cons_succ])
          refine wpAnyH_ready (rs := [39]) (by kernel_rfl) (by simp) (AllReadyH.cons (o := { dst := some 51, op := Op.call { callee := Callee.value (Operand.func 19), args := #[Operand.tmp 50], argTypes := #[22] }, type := 32, pos := "ref.go:44", after := #[{ on := 38, ground := Ground.data }, { on := 33, ground := Ground.chain }, { on := 33, ground := Ground.guard }], guard := some (33, false) }) rfl (fun K hK => ?_) AllReadyH.nil)
          go_simp
          go_at_call 19; refine (rsumC (l := l) (k := 0) hkl HSM.out _ _ _ (v1i (by assumption)).1 hl).mono ?_; rintro e wq ⟨rfl, rfl⟩
          go_wp2_with fail
          refine hK.out _ _ ?_ (fun hHeld => ?_)
          · (first | assumption | exact vs_drew ‹_› | (refine VS.now ‹_› ?_; assumption))
          clear hK K
          (try simp only [Act.put, List.setIfInBounds_toArray, List.set_cons_zero, List.set_cons_succ])
          refine wpAnyH_ready (rs := [44]) (by kernel_rfl) (by simp) (AllReadyH.cons (o := { dst := some 56, op := Op.call { callee := Callee.value (Operand.func 26), args := #[Operand.tmp 51, Operand.tmp 53, Operand.tmp 55], argTypes := #[32, 3, 9] }, type := 32, pos := "ref.go:44", after := #[{ on := 39, ground := Ground.data }, { on := 41, ground := Ground.data }, { on := 43, ground := Ground.data }, { on := 39, ground := Ground.chain }, { on := 33, ground := Ground.guard }], guard := some (33, false) }) rfl (fun K hK => ?_) AllReadyH.nil)
          go_simp
          go_at_call 26; refine (hdg _).mono ?_; rintro e wq ⟨rfl, hq⟩
          go_wp2_with fail
          refine hK.out _ _ ?_ (fun hHeld => ?_)
          · (first | assumption | exact vs_drew ‹_› | (refine VS.now ‹_› ?_; assumption))
          clear hK K
          (try simp only [Act.put, List.setIfInBounds_toArray, List.set_cons_zero, List.set_cons_succ])
          refine wpAnyH_take (i := 45) (oi := { dst := some 57, op := Op.binOp BinOp.neq 32 (Operand.tmp 47) (Operand.tmp 56) 32, type := 4, pos := "ref.go:44", after := #[{ on := 35, ground := Ground.data }, { on := 44, ground := Ground.data }, { on := 33, ground := Ground.guard }], guard := some (33, false) }) (v := ?_) rfl (by kernel_rfl) (by kernel_rfl) (by kernel_rfl) (fun _ _ _ h => h) (Or.inl ⟨by rfl, ?_⟩) (by assumption) ?_
          rotate_left
          · intro W hSw; (try dsimp only at hSw); go_simp; (first | done | with_reducible rfl)
          (try simp only [Act.put, List.setIfInBounds_toArray, List.set_cons_zero, List.set_cons_succ])
          refine wpAnyH_take (i := 46) (oi := { dst := some 58, op := Op.pick (Operand.tmp 45) (Operand.const (Value.bool true)) (Operand.tmp 57), type := 4, pos := "ref.go:44", after := #[{ on := 33, ground := Ground.data }, { on := 45, ground := Ground.data }], guard := none }) (v := ?_) rfl (by kernel_rfl) (by kernel_rfl) (by kernel_rfl) (fun _ _ _ h => h) (Or.inl ⟨by rfl, ?_⟩) (by assumption) ?_
          rotate_left
          · intro W hSw; (try dsimp only at hSw); go_simp; (first | done | with_reducible rfl)
          (try simp only [Act.put, List.setIfInBounds_toArray, List.set_cons_zero, List.set_cons_succ])
          refine wpAnyH_done (by kernel_rfl) ?_ _
          all_goals (go_wp2_with fail)
          all_goals (
            go_roundw
            case rel => exact ⟨0 + 1, by omega, by go_num, (v1i (by assumption)).2.1, HR⟩
            case measure => simp [intOf] <;> omega)
      · have hlp := lastT_at l p (by omega)
        rw [hlp] at hgc HB HK
        obtain ⟨b', off', hA', _, _, y0, _, _⟩ := ent_at hrw (i := p) (by omega)
        obtain ⟨rfl, rfl⟩ : b = b' ∧ off = off' := by simpa using hA'
        clear hA' hlp
        generalize l[p] = y at hgc HB HK y0
        have hn : ((p + 1 : Nat) : Int) - 1 = (p : Int) := by omega
        have hp1 : (p : Int) < (l.length : Int) := by omega
        have hp2 : (p : Int) + 1 < (l.length : Int) := by omega
        have hc1 : (0 : Int) ≤ (p : Int) + 1 := by omega
        have hw1 : IntKind.i64.wrap (p : Int) = (p : Int) := by unfold IntKind.wrap; simp [IntKind.bits, IntKind.signed]; omega
        have hw2 : IntKind.i64.wrap ((p : Int) + 1 - 1) = (p : Int) := by rw [show (p : Int) + 1 - 1 = (p : Int) by omega]; exact hw1
        have hc2 : (p : Int) + 1 ≤ (cap : Int) := by omega
        generalize l[p + 1] = x at hgc HB HK hxo x0 x1 x2
        rcases hgc with ⟨hg, h512⟩ | ⟨hg, h512, htm⟩ | ⟨hg, h512, htm, hord⟩ | ⟨hg, h512, htm, hord, hlg⟩ | ⟨hg, h512, htm, hord, hlg, hsum⟩ | ⟨hg, h512, htm, hord, hlg, hsum⟩
        · have HR := Lib.hid (HB.out hg)
          obtain rfl : p = 511 := by omega
          simp only [Nat.reduceAdd, Nat.reduceMul] at x0 x1 x2
          have hp3 : (512 : Int) < (l.length : Int) := by omega
          clear HB HK hg
          go_wp2_with fail
          have hvs := vs_new (A := some ⟨b, off, none⟩) (l := l) (b := b) x 37 hrw hbr (E.now hbr) hbl
          have hy0 := (((Below.refl _ _).alloc (Nat.le_refl _) (.cells #[.int .i64 x.time, .string (bs x.text), .int .u64 (x.sum : Int)] 37)).cell (p := ⟨b, off + 511 * 3, none⟩) hbl).trans y0
          clear hrw x0 x1 x2 y0
          generalize wr.alloc (.cells #[.int .i64 x.time, .string (bs x.text), .int .u64 (x.sum : Int)] 37) = w1 at hvs hy0 ⊢
          generalize wr.heap.size = g at hvs ⊢
          have hS : w1.cell? ⟨b, off + 511 * 3, none⟩ = some (.int .i64 y.time) ∧ w1.cell? ⟨g, 0, none⟩ = some (.int .i64 x.time) ∧ w1.cell? ⟨g, 1, none⟩ = some (.string (bs x.text)) ∧ w1.cell? ⟨g, 2, none⟩ = some (.int .u64 (x.sum : Int)) ∧ VI w (some ⟨b, off, none⟩) l g b w1 := ⟨hy0, hvs⟩
          clear hvs hy0
          have hT := hS
          obtain ⟨zy, z0, z1, z2, hz9⟩ := hT
          (refine wp_region_quiet_lit (by kernel_rfl) (by kernel_rfl) ?_; (repeat (any_goals (first | go_big_quiet_step (fail) | quiet_step (fail) | (refine wpQuiet_step (fun K hK => ?_); go_simp; split <;> (refine hK _ ?_; clear hK K))))); all_goals (refine wpQuiet_nil ?_; intro _ hw'; obtain ⟨nq, hw''⟩ := hw'; subst hw''))
          clear zy z0 z1 z2 hz9
          have hT : (w1.drewN nq).cell? ⟨b, off + 511 * 3, none⟩ = some (.int .i64 y.time) ∧ (w1.drewN nq).cell? ⟨g, 0, none⟩ = some (.int .i64 x.time) ∧ (w1.drewN nq).cell? ⟨g, 1, none⟩ = some (.string (bs x.text)) ∧ (w1.drewN nq).cell? ⟨g, 2, none⟩ = some (.int .u64 (x.sum : Int)) ∧ VI w (some ⟨b, off, none⟩) l g b (w1.drewN nq) := VS2.now hS (below_drewN (Below.refl _ _) nq)
          clear hS
          generalize w1.drewN nq = w2 at hT ⊢
          have hS := hT
          clear hT
          go_wp2_with fail
          all_goals (go_ret; exact ⟨ret_int (by have h := HR.out; omega), (v2i (by assumption)).2.1⟩)
        · have HR := Lib.hid (HB.out hg)
          have c5' : (((p : Nat) : Int) + 1 == 512) = false := by simp; omega
          have ht2 : x.time < 0 ∨ 1073741824 < x.time := by
            have : ¬ (0 ≤ x.time ∧ x.time ≤ 1073741824) := fun h => by rw [tmB_iff.2 h] at htm; cases htm
            omega
          clear HB HK hg htm
          rcases ht2 with ht2 | ht2
          · have t1 : decide (x.time < 0) = true := by simp; omega
            go_wp2_with fail
            have hvs := vs_new (A := some ⟨b, off, none⟩) (l := l) (b := b) x 37 hrw hbr (E.now hbr) hbl
            have hy0 := (((Below.refl _ _).alloc (Nat.le_refl _) (.cells #[.int .i64 x.time, .string (bs x.text), .int .u64 (x.sum : Int)] 37)).cell (p := ⟨b, off + p * 3, none⟩) hbl).trans y0
            clear hrw x0 x1 x2 y0
            generalize wr.alloc (.cells #[.int .i64 x.time, .string (bs x.text), .int .u64 (x.sum : Int)] 37) = w1 at hvs hy0 ⊢
            generalize wr.heap.size = g at hvs ⊢
            have hS : w1.cell? ⟨b, off + p * 3, none⟩ = some (.int .i64 y.time) ∧ w1.cell? ⟨g, 0, none⟩ = some (.int .i64 x.time) ∧ w1.cell? ⟨g, 1, none⟩ = some (.string (bs x.text)) ∧ w1.cell? ⟨g, 2, none⟩ = some (.int .u64 (x.sum : Int)) ∧ VI w (some ⟨b, off, none⟩) l g b w1 := ⟨hy0, hvs⟩
            clear hvs hy0
            have hT := hS
            obtain ⟨zy, z0, z1, z2, hz9⟩ := hT
            (refine wp_region_quiet_lit (by kernel_rfl) (by kernel_rfl) ?_; (repeat (any_goals (first | go_big_quiet_step (fail) | quiet_step (fail) | (refine wpQuiet_step (fun K hK => ?_); go_simp; split <;> (refine hK _ ?_; clear hK K))))); all_goals (refine wpQuiet_nil ?_; intro _ hw'; obtain ⟨nq, hw''⟩ := hw'; subst hw''))
            clear zy z0 z1 z2 hz9
            have hT : (w1.drewN nq).cell? ⟨b, off + p * 3, none⟩ = some (.int .i64 y.time) ∧ (w1.drewN nq).cell? ⟨g, 0, none⟩ = some (.int .i64 x.time) ∧ (w1.drewN nq).cell? ⟨g, 1, none⟩ = some (.string (bs x.text)) ∧ (w1.drewN nq).cell? ⟨g, 2, none⟩ = some (.int .u64 (x.sum : Int)) ∧ VI w (some ⟨b, off, none⟩) l g b (w1.drewN nq) := VS2.now hS (below_drewN (Below.refl _ _) nq)
            clear hS
            generalize w1.drewN nq = w2 at hT ⊢
            have hS := hT
            clear hT
            go_wp2_with fail
            all_goals (go_ret; exact ⟨ret_int (by have h := HR.out; omega), (v2i (by assumption)).2.1⟩)
          · have t1 : decide (x.time < 0) = false := by simp; omega
            have t2 : decide (1073741824 < x.time) = true := by simp; omega
            go_wp2_with fail
            have hvs := vs_new (A := some ⟨b, off, none⟩) (l := l) (b := b) x 37 hrw hbr (E.now hbr) hbl
            have hy0 := (((Below.refl _ _).alloc (Nat.le_refl _) (.cells #[.int .i64 x.time, .string (bs x.text), .int .u64 (x.sum : Int)] 37)).cell (p := ⟨b, off + p * 3, none⟩) hbl).trans y0
            clear hrw x0 x1 x2 y0
            generalize wr.alloc (.cells #[.int .i64 x.time, .string (bs x.text), .int .u64 (x.sum : Int)] 37) = w1 at hvs hy0 ⊢
            generalize wr.heap.size = g at hvs ⊢
            have hS : w1.cell? ⟨b, off + p * 3, none⟩ = some (.int .i64 y.time) ∧ w1.cell? ⟨g, 0, none⟩ = some (.int .i64 x.time) ∧ w1.cell? ⟨g, 1, none⟩ = some (.string (bs x.text)) ∧ w1.cell? ⟨g, 2, none⟩ = some (.int .u64 (x.sum : Int)) ∧ VI w (some ⟨b, off, none⟩) l g b w1 := ⟨hy0, hvs⟩
            clear hvs hy0
            have hT := hS
            obtain ⟨zy, z0, z1, z2, hz9⟩ := hT
            (refine wp_region_quiet_lit (by kernel_rfl) (by kernel_rfl) ?_; (repeat (any_goals (first | go_big_quiet_step (fail) | quiet_step (fail) | (refine wpQuiet_step (fun K hK => ?_); go_simp; split <;> (refine hK _ ?_; clear hK K))))); all_goals (refine wpQuiet_nil ?_; intro _ hw'; obtain ⟨nq, hw''⟩ := hw'; subst hw''))
            clear zy z0 z1 z2 hz9
            have hT : (w1.drewN nq).cell? ⟨b, off + p * 3, none⟩ = some (.int .i64 y.time) ∧ (w1.drewN nq).cell? ⟨g, 0, none⟩ = some (.int .i64 x.time) ∧ (w1.drewN nq).cell? ⟨g, 1, none⟩ = some (.string (bs x.text)) ∧ (w1.drewN nq).cell? ⟨g, 2, none⟩ = some (.int .u64 (x.sum : Int)) ∧ VI w (some ⟨b, off, none⟩) l g b (w1.drewN nq) := VS2.now hS (below_drewN (Below.refl _ _) nq)
            clear hS
            generalize w1.drewN nq = w2 at hT ⊢
            have hS := hT
            clear hT
            go_wp2_with fail
            all_goals (go_ret; exact ⟨ret_int (by have h := HR.out; omega), (v2i (by assumption)).2.1⟩)
        · have HR := Lib.hid (HB.out hg)
          have c5' : (((p : Nat) : Int) + 1 == 512) = false := by simp; omega
          have ht2 := tmB_iff.1 htm
          have t1 : decide (x.time < 0) = false := by simp; omega
          have t2 : decide (1073741824 < x.time) = false := by simp; omega
          have o1 : decide (x.time < y.time) = true := by simp; omega
          clear HB HK hg htm
          go_wp2_with fail
          have hvs := vs_new (A := some ⟨b, off, none⟩) (l := l) (b := b) x 37 hrw hbr (E.now hbr) hbl
          have hy0 := (((Below.refl _ _).alloc (Nat.le_refl _) (.cells #[.int .i64 x.time, .string (bs x.text), .int .u64 (x.sum : Int)] 37)).cell (p := ⟨b, off + p * 3, none⟩) hbl).trans y0
          clear hrw x0 x1 x2 y0
          generalize wr.alloc (.cells #[.int .i64 x.time, .string (bs x.text), .int .u64 (x.sum : Int)] 37) = w1 at hvs hy0 ⊢
          generalize wr.heap.size = g at hvs ⊢
          have hS : w1.cell? ⟨b, off + p * 3, none⟩ = some (.int .i64 y.time) ∧ w1.cell? ⟨g, 0, none⟩ = some (.int .i64 x.time) ∧ w1.cell? ⟨g, 1, none⟩ = some (.string (bs x.text)) ∧ w1.cell? ⟨g, 2, none⟩ = some (.int .u64 (x.sum : Int)) ∧ VI w (some ⟨b, off, none⟩) l g b w1 := ⟨hy0, hvs⟩
          clear hvs hy0
          have hT := hS
          obtain ⟨zy, z0, z1, z2, hz9⟩ := hT
          (refine wp_region_quiet_lit (by kernel_rfl) (by kernel_rfl) ?_; (repeat (any_goals (first | go_big_quiet_step (fail) | quiet_step (fail) | (refine wpQuiet_step (fun K hK => ?_); go_simp; split <;> (refine hK _ ?_; clear hK K))))); all_goals (refine wpQuiet_nil ?_; intro _ hw'; obtain ⟨nq, hw''⟩ := hw'; subst hw''))
          clear zy z0 z1 z2 hz9
          have hT : (w1.drewN nq).cell? ⟨b, off + p * 3, none⟩ = some (.int .i64 y.time) ∧ (w1.drewN nq).cell? ⟨g, 0, none⟩ = some (.int .i64 x.time) ∧ (w1.drewN nq).cell? ⟨g, 1, none⟩ = some (.string (bs x.text)) ∧ (w1.drewN nq).cell? ⟨g, 2, none⟩ = some (.int .u64 (x.sum : Int)) ∧ VI w (some ⟨b, off, none⟩) l g b (w1.drewN nq) := VS2.now hS (below_drewN (Below.refl _ _) nq)
          clear hS
          generalize w1.drewN nq = w2 at hT ⊢
          have hS := hT
          clear hT
          go_wp2_with fail
          all_goals (go_ret; exact ⟨ret_int (by have h := HR.out; omega), (v2i (by assumption)).2.1⟩)
        · have HR := Lib.hid (HB.out hg)
          have c5' : (((p : Nat) : Int) + 1 == 512) = false := by simp; omega
          have ht2 := tmB_iff.1 htm
          have t1 : decide (x.time < 0) = false := by simp; omega
          have t2 : decide (1073741824 < x.time) = false := by simp; omega
          have o1 : decide (x.time < y.time) = false := by simp; omega
          have HLG := Lib.hid hlg
          clear HB HK hg htm hlg
          go_wp2_with fail
          have hvs := vs_new (A := some ⟨b, off, none⟩) (l := l) (b := b) x 37 hrw hbr (E.now hbr) hbl
          have hy0 := (((Below.refl _ _).alloc (Nat.le_refl _) (.cells #[.int .i64 x.time, .string (bs x.text), .int .u64 (x.sum : Int)] 37)).cell (p := ⟨b, off + p * 3, none⟩) hbl).trans y0
          clear hrw x0 x1 x2 y0
          generalize wr.alloc (.cells #[.int .i64 x.time, .string (bs x.text), .int .u64 (x.sum : Int)] 37) = w1 at hvs hy0 ⊢
          generalize wr.heap.size = g at hvs ⊢
          have hS : w1.cell? ⟨b, off + p * 3, none⟩ = some (.int .i64 y.time) ∧ w1.cell? ⟨g, 0, none⟩ = some (.int .i64 x.time) ∧ w1.cell? ⟨g, 1, none⟩ = some (.string (bs x.text)) ∧ w1.cell? ⟨g, 2, none⟩ = some (.int .u64 (x.sum : Int)) ∧ VI w (some ⟨b, off, none⟩) l g b w1 := ⟨hy0, hvs⟩
          clear hvs hy0
          have hT := hS
          obtain ⟨zy, z0, z1, z2, hz9⟩ := hT
          (refine wp_region_quiet_lit (by kernel_rfl) (by kernel_rfl) ?_; (repeat (any_goals (first | go_big_quiet_step ((first | (go_at_call 25; exact Calls.quiet_of_same ((rtextC HLG.out _ hxo.2.1).mono fun _ _ h => ⟨h.1, h.2.symm⟩)))) | quiet_step ((first | (go_at_call 25; exact Calls.quiet_of_same ((rtextC HLG.out _ hxo.2.1).mono fun _ _ h => ⟨h.1, h.2.symm⟩)))) | (refine wpQuiet_step (fun K hK => ?_); go_simp; split <;> (refine hK _ ?_; clear hK K))))); all_goals (refine wpQuiet_nil ?_; intro _ hw'; obtain ⟨nq, hw''⟩ := hw'; subst hw''))
          clear zy z0 z1 z2 hz9
          have hT : (w1.drewN nq).cell? ⟨b, off + p * 3, none⟩ = some (.int .i64 y.time) ∧ (w1.drewN nq).cell? ⟨g, 0, none⟩ = some (.int .i64 x.time) ∧ (w1.drewN nq).cell? ⟨g, 1, none⟩ = some (.string (bs x.text)) ∧ (w1.drewN nq).cell? ⟨g, 2, none⟩ = some (.int .u64 (x.sum : Int)) ∧ VI w (some ⟨b, off, none⟩) l g b (w1.drewN nq) := VS2.now hS (below_drewN (Below.refl _ _) nq)
          clear hS
          generalize w1.drewN nq = w2 at hT ⊢
          have hS := hT
          clear hT
          go_wp2_with fail
          all_goals (go_ret; exact ⟨ret_int (by have h := HR.out; omega), (v2i (by assumption)).2.1⟩)
        · have HR := Lib.hid (HB.out hg)
          have c5' : (((p : Nat) : Int) + 1 == 512) = false := by simp; omega
          have ht2 := tmB_iff.1 htm
          have t1 : decide (x.time < 0) = false := by simp; omega
          have t2 : decide (1073741824 < x.time) = false := by simp; omega
          have o1 : decide (x.time < y.time) = false := by simp; omega
          have HLG := Lib.hid hlg
          have hxl := (legB_iff.1 hlg).1.2
          have hdg := fun W => rdigest_any sm x.time x.text W hsm hxo.1 (by omega)
          generalize dgst sm x.time x.text = d at hdg hsum
          have s1 : ((x.sum : Int) != (d : Int)) = true := by simp; omega
          clear hsum
          clear HB HK hg htm hlg
          go_wp2_with fail
          have hvs := vs_new (A := some ⟨b, off, none⟩) (l := l) (b := b) x 37 hrw hbr (E.now hbr) hbl
          have hy0 := (((Below.refl _ _).alloc (Nat.le_refl _) (.cells #[.int .i64 x.time, .string (bs x.text), .int .u64 (x.sum : Int)] 37)).cell (p := ⟨b, off + p * 3, none⟩) hbl).trans y0
          clear hrw x0 x1 x2 y0
          generalize wr.alloc (.cells #[.int .i64 x.time, .string (bs x.text), .int .u64 (x.sum : Int)] 37) = w1 at hvs hy0 ⊢
          generalize wr.heap.size = g at hvs ⊢
          have hS : w1.cell? ⟨b, off + p * 3, none⟩ = some (.int .i64 y.time) ∧ w1.cell? ⟨g, 0, none⟩ = some (.int .i64 x.time) ∧ w1.cell? ⟨g, 1, none⟩ = some (.string (bs x.text)) ∧ w1.cell? ⟨g, 2, none⟩ = some (.int .u64 (x.sum : Int)) ∧ VI w (some ⟨b, off, none⟩) l g b w1 := ⟨hy0, hvs⟩
          clear hvs hy0
          go_region_held3 (fun w' => w'.cell? ⟨b, off + p * 3, none⟩ = some (.int .i64 y.time) ∧ w'.cell? ⟨g, 0, none⟩ = some (.int .i64 x.time) ∧ w'.cell? ⟨g, 1, none⟩ = some (.string (bs x.text)) ∧ w'.cell? ⟨g, 2, none⟩ = some (.int .u64 (x.sum : Int)) ∧ VI w (some ⟨b, off, none⟩) l g b w') (first | assumption | exact vs2_drew ‹_› | (refine VS2.now ‹_› ?_; assumption)) (first
            | (go_at_call 25; refine (rtextC HLG.out _ hxo.2.1).mono ?_; rintro e wq ⟨rfl, rfl⟩)
            | (go_at_call 19; refine (rsumC (l := l) (k := p + 1) hkl HSM.out _ _ _ (v2i (by assumption)).1 hl).mono ?_; rintro e wq ⟨rfl, rfl⟩)
            | (go_at_call 26; refine (hdg _).mono ?_; rintro e wq ⟨rfl, hq⟩))
          all_goals (go_wp2_with fail)
          all_goals (go_ret; exact ⟨ret_int (by have h := HR.out; omega), (v2i (by assumption)).2.1⟩)
        · have HR := Lib.hid (HK.out hg)
          have c5' : (((p : Nat) : Int) + 1 == 512) = false := by simp; omega
          have ht2 := tmB_iff.1 htm
          have t1 : decide (x.time < 0) = false := by simp; omega
          have t2 : decide (1073741824 < x.time) = false := by simp; omega
          have o1 : decide (x.time < y.time) = false := by simp; omega
          have HLG := Lib.hid hlg
          have hxl := (legB_iff.1 hlg).1.2
          have hdg := fun W => rdigest_any sm x.time x.text W hsm hxo.1 (by omega)
          generalize dgst sm x.time x.text = d at hdg hsum
          have s1 : ((x.sum : Int) != (d : Int)) = false := by simp; omega
          clear hsum
          clear HB HK hg htm hlg
          go_wp2_with fail
          have hvs := vs_new (A := some ⟨b, off, none⟩) (l := l) (b := b) x 37 hrw hbr (E.now hbr) hbl
          have hy0 := (((Below.refl _ _).alloc (Nat.le_refl _) (.cells #[.int .i64 x.time, .string (bs x.text), .int .u64 (x.sum : Int)] 37)).cell (p := ⟨b, off + p * 3, none⟩) hbl).trans y0
          clear hrw x0 x1 x2 y0
          generalize wr.alloc (.cells #[.int .i64 x.time, .string (bs x.text), .int .u64 (x.sum : Int)] 37) = w1 at hvs hy0 ⊢
          generalize wr.heap.size = g at hvs ⊢
          have hS : w1.cell? ⟨b, off + p * 3, none⟩ = some (.int .i64 y.time) ∧ w1.cell? ⟨g, 0, none⟩ = some (.int .i64 x.time) ∧ w1.cell? ⟨g, 1, none⟩ = some (.string (bs x.text)) ∧ w1.cell? ⟨g, 2, none⟩ = some (.int .u64 (x.sum : Int)) ∧ VI w (some ⟨b, off, none⟩) l g b w1 := ⟨hy0, hvs⟩
          clear hvs hy0
          go_region_held3 (fun w' => w'.cell? ⟨b, off + p * 3, none⟩ = some (.int .i64 y.time) ∧ w'.cell? ⟨g, 0, none⟩ = some (.int .i64 x.time) ∧ w'.cell? ⟨g, 1, none⟩ = some (.string (bs x.text)) ∧ w'.cell? ⟨g, 2, none⟩ = some (.int .u64 (x.sum : Int)) ∧ VI w (some ⟨b, off, none⟩) l g b w') (first | assumption | exact vs2_drew ‹_› | (refine VS2.now ‹_› ?_; assumption)) (first
            | (go_at_call 25; refine (rtextC HLG.out _ hxo.2.1).mono ?_; rintro e wq ⟨rfl, rfl⟩)
            | (go_at_call 19; refine (rsumC (l := l) (k := p + 1) hkl HSM.out _ _ _ (v2i (by assumption)).1 hl).mono ?_; rintro e wq ⟨rfl, rfl⟩)
            | (go_at_call 26; refine (hdg _).mono ?_; rintro e wq ⟨rfl, hq⟩))
          all_goals (go_wp2_with fail)
          all_goals (
            go_roundw
            case rel => exact ⟨(p + 1) + 1, by omega, by go_num, (v2i (by assumption)).2.1, HR⟩
            case measure => simp [intOf] <;> omega)
    · have HR := Lib.hid (ver_end hlt HV.out)
      go_wp2_with fail
      go_ret
      exact ⟨ret_int (by rw [HR.out]), hbr⟩
end Go.Proofs.YtnckainiphlndaaDoor
