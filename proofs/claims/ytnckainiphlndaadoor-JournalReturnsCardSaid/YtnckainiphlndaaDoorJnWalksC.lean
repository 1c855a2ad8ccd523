/- The walk of Append's reference. -/
import Derived.Test.YtnckainiphlndaaDoorJnWalksB
import Derived.Deep.Upon
import Derived.Deep.Cut
import Derived.Deep.QuietTactic
namespace Go.Proofs.YtnckainiphlndaaDoor
set_option linter.unusedVariables false
set_option linter.unusedSimpArgs false
open Go.RowKit
attribute [local go_sem] bs_size bs_get bs_append bs_extract bs_toList
/-- All of a row is appended to nothing: a row of the call's own. -/
theorem wpList_append_all {P : Program} (w : World) {ops : Array Oper} {rest : List Oper} {o : Oper} {a : Act} {Q : Exit → Act → World → Prop} (hgd : o.guard = none) (s x : Operand) (t : TypeId)
    (ho : o.op = .call { callee := .builtin .append, args := #[s, x], argTypes := #[t, t] })
    (e : TypeId) (i : TypeInfo) (z : Value) (ht : P.underlying t = some (.slice e)) (hi : P.info? e = some i) (hz : i.zero = some z) (hsize : i.size = 3) (hby : i.bytes = 32) (hzs : z.cells.size = 3)
    (A : Option Addr) (n cap : Nat) (l : List Ent) (hn : n = l.length) (hs : a.eval s = .slice none 0 0) (hx : a.eval x = .slice A n cap) (hr : RdS cE w (Lt w) A l) (hl : l.length ≤ 1000)
    (h : ∀ v' w', OwnR cE w' w.heap.size e v' l 0 → Below w.heap.size w w' → wpList P ops Q rest (a.put o.dst v') w') : wpList P ops Q (o :: rest) a w := by
  subst hn
  by_cases h0 : 0 < l.length
  · obtain ⟨b, off, rfl, _, _⟩ := hr h0
    have hc := rds_cells hr rfl
    refine wpList_append_own _ hgd s x t ho w.heap.size e i z 3 32 ht hi hz hsize hby hzs (by decide) (.slice none 0 0) 0 [] hs (World.ownsRow_nil w _ e 3) ⟨b, off, none⟩ l.length cap (cellsE l) hx (cellsE_len l) hc (cellsE_cell l) (by unfold maxLen; omega) (by omega) (Nat.le_refl _) ?_
    intro v' w' h1 h2 _
    rw [Nat.zero_add, List.nil_append] at h1
    exact h v' w' (ownE h1 (ent_all hr)) ((Below.refl _ _).grown h2 (Nat.le_refl _) (fun k hk => by cases hk))
  · obtain rfl : l = [] := List.eq_nil_of_length_eq_zero (by omega)
    have hsrc : Src P 3 t (.slice A 0 cap) 0 [] w := by
      cases A with
      | none => exact Src.ofNil w ht cap
      | some a => exact Src.ofSlice w ht a 0 cap [] rfl (fun j u h => by simp at h) (fun u h => by simp at h)
    refine wpList_plain hgd fun K hK' => ?_
    have hrun := run_append_nothing (P := P) w t t o.type e i ht hi none 0 0 (Nat.le_refl _) _ (by rw [hsize]; exact hsrc)
    rw [List.length_nil] at hx
    unfold Oper.wp
    simp [execOp, ho, resolve, invoke, builtin, hs, hx, hrun, Result.andThen]
    exact hK' _ _ (h _ _ (OwnR.nil _ _ _ _ (Nat.zero_le _)) (Below.refl _ _))
set_option maxRecDepth 100000 in
set_option maxHeartbeats 4000000 in
theorem rappend_any (l : List Ent) (A : Option Addr) (cap : Nat) (t : Int) (s : List UInt8) (w : World) (hr : RdS cE w (Lt w) A l) (hl : l.length ≤ maxLen) (ht : I64n t) (hs : s.length ≤ maxLen) :
    Calls Tryd.prog 11 #[.slice A l.length cap, .int .i64 t, .string (bs s)] w (AppPost w (appF l t s)) := by
  cases h1 : tmB t with
  | false =>
    have HF := Lib.hid (appF_bad (j := l) (s := s) (Or.inl h1))
    have ht1 : t < 0 ∨ 1073741824 < t := by
      have : ¬ (0 ≤ t ∧ t ≤ 1073741824) := fun h => by rw [tmB_iff.2 h] at h1; cases h1
      omega
    clear h1
    go_enter Tryd.func11, Tryd.ntmps11
    go_wp2_with fail
    all_goals try (exfalso; omega)
    all_goals (go_ret2; exact AppPost.none HF.out (Below.refl _ _) rfl)
  | true =>
    have ht1 := tmB_iff.1 h1
    cases h2 : legB s with
    | false =>
      have HF := Lib.hid (appF_bad (j := l) (t := t) (Or.inr h2))
      have H2 := Lib.hid h2
      clear h1 h2
      go_enter Tryd.func11, Tryd.ntmps11
      go_wp2_with fail
      refine (rtextC H2.out _ hs).mono ?_
      rintro e w1 ⟨rfl, rfl⟩
      go_wp2_with fail
      go_ret2
      exact AppPost.none HF.out (Below.refl _ _) rfl
    | true =>
      have H2 := Lib.hid h2
      have HG := Lib.hid (appF_good' (j := l) h1 h2)
      have hs2 : s.length ≤ 2000 := (legB_iff.1 h2).1.2
      clear h1 h2
      unfold maxLen at hl
      by_cases ho : 0 < l.length ∧ t < lastT l
      · have HF : Hid (appF l t s = ([], 7)) := Lib.hid (by rw [HG.out, if_pos ho])
        obtain ⟨h0, hlt⟩ := ho
        rw [(sumF_last l h0).2] at hlt
        obtain ⟨b, off, rfl, hb, hx, x0, x1, x2⟩ := ent_at hr (i := l.length - 1) (by omega)
        generalize l[l.length - 1] = x at hx x0 x1 x2 hlt
        obtain ⟨m, hm⟩ : ∃ m, l.length = m + 1 := ⟨l.length - 1, by omega⟩
        have e : l.length - 1 = m := by omega
        rw [e] at x0 x1 x2
        rw [hm] at hl ⊢
        clear e h0
        have hn : ((m + 1 : Nat) : Int) - 1 = (m : Int) := by omega
        go_enter Tryd.func11, Tryd.ntmps11
        go_wp2_with fail
        refine (rtextC H2.out _ hs).mono ?_
        rintro e w1 ⟨rfl, rfl⟩
        go_wp2_with fail
        go_ret2
        exact AppPost.none HF.out (Below.refl _ _) rfl
      · have HO := Lib.hid ho
        by_cases hfull : 512 ≤ l.length
        · have HF : Hid (appF l t s = ([], 16)) := Lib.hid (by rw [HG.out, if_neg ho, if_pos hfull])
          have h0 : 0 < l.length := by omega
          have hlt : ¬ t < lastT l := fun h => ho ⟨h0, h⟩
          rw [(sumF_last l h0).2] at hlt
          obtain ⟨b, off, rfl, hb, hx, x0, x1, x2⟩ := ent_at hr (i := l.length - 1) (by omega)
          generalize l[l.length - 1] = x at hx x0 x1 x2 hlt
          obtain ⟨m, hm⟩ : ∃ m, l.length = m + 1 := ⟨l.length - 1, by omega⟩
          have e : l.length - 1 = m := by omega
          rw [e] at x0 x1 x2
          rw [hm] at hl hfull ⊢
          clear e h0 ho
          have hn : ((m + 1 : Nat) : Int) - 1 = (m : Int) := by omega
          go_enter Tryd.func11, Tryd.ntmps11
          go_wp2_with fail
          refine (rtextC H2.out _ hs).mono ?_
          rintro e w1 ⟨rfl, rfl⟩
          go_wp2_with fail
          go_ret2
          exact AppPost.none HF.out (Below.refl _ _) rfl
        · have HF : Hid (appF l t s = (l ++ [⟨t, s, dgst (sumF l) t s⟩], 0)) := Lib.hid (by rw [HG.out, if_neg ho, if_neg hfull])
          obtain ⟨i0, hi, hz0, hz1, hz2⟩ := info_parts infoE
          have hsl := sumF_lt (ent_all hr)
          have hsum := fun W (hW : RdS cE W (Lt W) A l) => rsum_any l A cap W hW (by unfold maxLen; omega)
          generalize sumF l = sm at hsum HF hsl
          have hdg := fun W => rdigest_any sm t s W hsl ht (by omega)
          have hd := dgst_lt sm t s
          generalize dgst sm t s = d at hdg HF hd
          by_cases h0 : 0 < l.length
          · have hlt : ¬ t < lastT l := fun h => ho ⟨h0, h⟩
            rw [(sumF_last l h0).2] at hlt
            obtain ⟨b, off, hA, hb, hx, x0, x1, x2⟩ := ent_at hr (i := l.length - 1) (by omega)
            generalize l[l.length - 1] = x at hx x0 x1 x2 hlt
            obtain ⟨m, hm⟩ : ∃ m, l.length = m + 1 := ⟨l.length - 1, by omega⟩
            have e : l.length - 1 = m := by omega
            rw [e] at x0 x1 x2
            clear e ho
            have hn : ((m + 1 : Nat) : Int) - 1 = (m : Int) := by omega
            rw [hA, hm] at hsum ⊢
            rw [hA] at hr
            go_enter Tryd.func11, Tryd.ntmps11
            go_wp2_with fail
            refine (rtextC H2.out _ hs).mono ?_
            rintro e w1 ⟨rfl, rfl⟩
            go_upto_region 9 with (at_builtin; refine wpList_append_all _ rfl _ _ 22 rfl 37 i0 _ Tryd.underlying22 hi hz0 hz1 hz2 rfl _ _ _ l hm.symm rfl rfl hr (by omega) ?_; intro v' w2 hown hb2)
            go_wp2_with fail
            refine (hsum _ (hr.now hb2)).mono ?_
            rintro e w3 ⟨rfl, rfl⟩
            go_wp2_with fail
            refine (hdg _).mono ?_
            rintro e w3 ⟨rfl, hb3⟩
            have hown3 := hown.now hb3
            have hB3 := bel_then hb2 hb2.size hb3
            have hsz3 := hB3.size
            go_wp2_with (at_builtin; refine wpList_append_r (c := cE) _ rfl _ _ 22 rfl w.heap.size 37 i0 _ 32 Tryd.underlying22 hi hz0 hz1 hz2 rfl (by decide) _ l 0 rfl hown3 [_, _, _] ⟨t, s, d⟩ ⟨rfl, entO_mk ht hs hd⟩ (fun u hu => cellsE_cell [⟨t, s, d⟩] u (by rw [cellsE_one]; exact hu)) _ rfl (by omega) (by omega) (by omega) ?_; intro v' w5 hown5 hf5 hs5)
            obtain ⟨A', c', rfl, hcap5, hrd5⟩ := hown5.reads2
            go_ret2
            refine ⟨A', c', by rw [HF.out]; simp [Act.put, hm], ?_, by rw [HF.out]; exact hrd5, hf5.keeps (Nat.le_refl _) hsz3 hB3⟩
            rw [HF.out]; exact hcap5
          · have hz : l.length = 0 := by omega
            rw [hz] at hsum ⊢
            clear ho
            go_enter Tryd.func11, Tryd.ntmps11
            go_wp2_with fail
            refine (rtextC H2.out _ hs).mono ?_
            rintro e w1 ⟨rfl, rfl⟩
            go_upto_region 9 with (at_builtin; refine wpList_append_all _ rfl _ _ 22 rfl 37 i0 _ Tryd.underlying22 hi hz0 hz1 hz2 rfl _ _ _ l hz.symm rfl rfl hr (by omega) ?_; intro v' w2 hown hb2)
            go_wp2_with fail
            refine (hsum _ (hr.now hb2)).mono ?_
            rintro e w3 ⟨rfl, rfl⟩
            go_wp2_with fail
            refine (hdg _).mono ?_
            rintro e w3 ⟨rfl, hb3⟩
            have hown3 := hown.now hb3
            have hB3 := bel_then hb2 hb2.size hb3
            have hsz3 := hB3.size
            go_wp2_with (at_builtin; refine wpList_append_r (c := cE) _ rfl _ _ 22 rfl w.heap.size 37 i0 _ 32 Tryd.underlying22 hi hz0 hz1 hz2 rfl (by decide) _ l 0 rfl hown3 [_, _, _] ⟨t, s, d⟩ ⟨rfl, entO_mk ht hs hd⟩ (fun u hu => cellsE_cell [⟨t, s, d⟩] u (by rw [cellsE_one]; exact hu)) _ rfl (by omega) (by omega) (by omega) ?_; intro v' w5 hown5 hf5 hs5)
            obtain ⟨A', c', rfl, hcap5, hrd5⟩ := hown5.reads2
            go_ret2
            refine ⟨A', c', by rw [HF.out]; simp [Act.put, hz], ?_, by rw [HF.out]; exact hrd5, hf5.keeps (Nat.le_refl _) hsz3 hB3⟩
            rw [HF.out]; exact hcap5
end Go.Proofs.YtnckainiphlndaaDoor
