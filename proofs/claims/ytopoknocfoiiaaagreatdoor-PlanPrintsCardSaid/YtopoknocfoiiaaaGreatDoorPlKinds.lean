/- The walks of kinds, kindWord, formatAll. -/
import Derived.Test.YtopoknocfoiiaaaGreatDoorPlCheck
namespace Go.Proofs.YtopoknocfoiiaaaGreatDoor
set_option linter.unusedVariables false
set_option linter.unusedSimpArgs false
open Go.RowKit
open Go.Maps (Keyed IsMap)
attribute [local go_sem] bs_size bs_get bs_append bs_extract bs_toList
attribute [-go_sem] run_equalIn_agg
def KindsD : DataW Unit := (((DataW.map []).put (.string trackW) (.lit (.int .i64 1))).put (.string pointsW) (.lit (.int .i64 2))).put (.string crossW) (.lit (.int .i64 3))
theorem key_ne {a b : List UInt8} (h : a ≠ b) : Lit.string a ≠ Lit.string b := fun e => h (by simpa using e)
theorem kinds_at (x : List UInt8) (z : DataW Unit) : KindsD.atKey (.string x) z = if x = crossW then .lit (.int .i64 3) else if x = pointsW then .lit (.int .i64 2) else if x = trackW then .lit (.int .i64 1) else z := by
  have m1 : IsMap (DataW.map [] : DataW Unit) := Maps.isMap_empty
  have m2 := m1.put (.string trackW) (.lit (.int .i64 1))
  have m3 := m2.put (.string pointsW) (.lit (.int .i64 2))
  unfold KindsD
  by_cases h3 : x = crossW
  · subst h3
    rw [Maps.atKey_put_same m3 (show WideAt.IsKeyLit (.string crossW) from trivial), if_pos rfl]
  · rw [Maps.atKey_put_other (key_ne h3), if_neg h3]
    by_cases h2 : x = pointsW
    · subst h2
      rw [Maps.atKey_put_same m2 (show WideAt.IsKeyLit (.string pointsW) from trivial), if_pos rfl]
    · rw [Maps.atKey_put_other (key_ne h2), if_neg h2]
      by_cases h1 : x = trackW
      · subst h1
        rw [Maps.atKey_put_same m1 (show WideAt.IsKeyLit (.string trackW) from trivial), if_pos rfl]
      · rw [Maps.atKey_put_other (key_ne h1), if_neg h1]
        rfl
def KindsW (w : World) (b : Nat) : Prop := w.ownsMap (H := Unit) Tryz.prog 9 (plainElem Tryz.prog 3) b 3 KindsD
theorem KindsW.now {w w' : World} {b : Nat} (h : KindsW w b) (hb : Below w.heap.size w w') : KindsW w' b := World.ownsMap.kept h (row := none) ⟨hb.os, hb.tape, hb.output, hb.size, fun i hi _ => hb.block i hi⟩ (by simp)
set_option maxHeartbeats 2000000 in
theorem kinds_any (w : World) : Calls Tryz.prog 32 #[] w fun e w' => ∃ b, e = .returned (.map (some b)) ∧ KindsW w' b ∧ Below w.heap.size w w' := by
  have h0 := World.ownsMap_made (H := Unit) w Tryz.prog 9 (plainElem Tryz.prog 3)
  obtain ⟨w1, r1, h1, g1⟩ := h0.update strKey Tryz.underlying66 (by unfold maxLen; omega) (str_key trackW (by unfold maxLen; decide)) (plainElem_int Tryz.underlying3 (by decide : (Lit.int .i64 1).wf = true))
  obtain ⟨w2, r2, h2, g2⟩ := h1.update strKey Tryz.underlying66 (by unfold maxLen; omega) (str_key pointsW (by unfold maxLen; decide)) (plainElem_int Tryz.underlying3 (by decide : (Lit.int .i64 2).wf = true))
  obtain ⟨w3, r3, h3, g3⟩ := h2.update strKey Tryz.underlying66 (by unfold maxLen; omega) (str_key crossW (by unfold maxLen; decide)) (plainElem_int Tryz.underlying3 (by decide : (Lit.int .i64 3).wf = true))
  have r1' : (Instr.mapUpdate 66 (.map (some w.heap.size)) (.string { data := #[116, 114, 97, 99, 107] }) (.int .i64 1)).run Tryz.prog (w.alloc (.map #[] 0)) = .ok () w1 := r1
  have r2' : (Instr.mapUpdate 66 (.map (some w.heap.size)) (.string { data := #[112, 111, 105, 110, 116, 115] }) (.int .i64 2)).run Tryz.prog w1 = .ok () w2 := r2
  have r3' : (Instr.mapUpdate 66 (.map (some w.heap.size)) (.string { data := #[99, 114, 111, 115, 115] }) (.int .i64 3)).run Tryz.prog w2 = .ok () w3 := r3
  have hb : Below w.heap.size w w3 := ((((Below.refl w.heap.size w).alloc (Nat.le_refl _) (.map #[] 0)).grown g1 (by simp) (by simp)).grown g2 (by have := g1.size; simp at this; omega) (by simp)).grown g3 (by have := g1.size; have := g2.size; simp at *; omega) (by simp)
  have HK : Hid (KindsW w3 w.heap.size) := Lib.hid h3
  have hmm := @run_makeMap Tryz.prog
  clear r1 r2 r3 h0 h1 h2 h3 g1 g2 g3
  go_enter Tryz.func32, Tryz.ntmps32
  go_wp2_with fail
  go_ret
  exact ⟨w.heap.size, rfl, HK.out, hb⟩
theorem keyOf_str_inv {P : Program} {k : TypeId} (hk : P.underlying k = some .string) {key : Value} {kl : Lit} (h : keyOf P k key = some kl) : ∃ s : ByteArray, key = .string s ∧ kl = .string s.data.toList := by
  cases key <;> simp [keyOf, hk, mapKey] at h
  exact ⟨_, rfl, h.2.symm⟩
/-- The range's step, string keys, integer elements. -/
theorem wpList_next_ranges_si {H : Type} {P : Program} (w : World) {ops : Array Oper} {rest : List Oper} {o : Oper} {a : Act} {Q : Exit → Act → World → Prop}
    (hg : o.guard = none) (it : Operand) (hop : o.op = Op.next it false) (k e : TypeId) (qe : IntKind) (K : Keyed P k) (hk : P.underlying k = some .string) (he : P.underlying e = some (.int qe))
    (b r n : Nat) (D : DataW H) (left : Lit → Bool) (cnt : Nat) (hit : a.eval it = .pointer (some ⟨r, 0, none⟩)) (h : w.ranges P k (plainElem P e) b r n D left cnt)
    (hDone : cnt = 0 → (∀ kl, left kl = false) → wpList P ops Q rest (a.put o.dst (.tuple #[.bool false])) w)
    (hMore : ∀ (x : List UInt8) (c : Int) (w' : World) (cnt' : Nat), left (.string x) = true → (∀ zd, D.atKey (.string x) zd = .lit (.int qe c)) → w'.ranges P k (plainElem P e) b r n D (fun z => left z && !z.sameKey (.string x)) cnt' → cnt' < cnt →
      w.grownBy w' (some r) → w'.heap.size = w.heap.size → (Instr.entry (.pointer (some ⟨r, 0, none⟩))).run P w' = .ok (.tuple #[.string (bs x), .int qe c]) w' → wpList P ops Q rest (a.put o.dst (.tuple #[.bool true, .string (bs x), .int qe c])) w') :
    wpList P ops Q (o :: rest) a w :=
  wpList_next_ranges w hg it hop k K (plainElem P e) Value.string (Value.int qe) (fun key kl hkey => by obtain ⟨x, rfl, _⟩ := keyOf_str_inv hk hkey; exact ⟨x, rfl⟩) (fun v y hv => by obtain ⟨c, rfl, _⟩ := plainElem_int_inv he hv; exact ⟨c, rfl⟩)
    b r n D left cnt hit h hDone (fun x c kl y w' cnt' hkey hlk hv hat hrg hlt hgr hsz hen => by
      obtain ⟨x', ex, rfl⟩ := keyOf_str_inv hk hkey
      cases ex
      obtain ⟨c', ec, rfl, hwc⟩ := plainElem_int_inv he hv
      cases ec
      obtain ⟨l, rfl⟩ := bs_of x
      exact hMore l c w' cnt' hlk hat hrg hlt hgr hsz hen)
theorem kinds_word {x : List UInt8} {c : Int} (h : ∀ zd, KindsD.atKey (.string x) zd = .lit (.int .i64 c)) : x = kwF c ∧ (c = 1 ∨ c = 2 ∨ c = 3) := by
  have h1 := h (.lit (.int .i64 0))
  have h2 := h (.lit (.int .i64 1))
  rw [kinds_at] at h1 h2
  split at h1
  · rename_i h3
    simp at h1 h3
    subst h1
    exact ⟨h3, by omega⟩
  · rename_i h3
    rw [if_neg h3] at h2
    split at h1
    · rename_i h3
      simp at h1 h3
      subst h1
      exact ⟨h3, by omega⟩
    · rename_i h3
      rw [if_neg h3] at h2
      split at h1
      · rename_i h3
        simp at h1 h3
        subst h1
        exact ⟨h3, by omega⟩
      · rename_i h3
        rw [if_neg h3] at h2
        simp at h1 h2
        omega
set_option maxRecDepth 100000 in
set_option maxHeartbeats 4000000 in
theorem kindWord_any (kind : Int) (w : World) (hk : kind = 1 ∨ kind = 2 ∨ kind = 3) : Calls Tryz.prog 12 #[.int .i64 kind] w fun e w' => e = .returned (.string (bs (kwF kind))) ∧ Below w.heap.size w w' := by
  have HK := Lib.hid hk
  have HL : Hid (Maps.has KindsD (.string (kwF kind)) = true) := Lib.hid (by
    refine Maps.has_true_of_atKey (y := .lit (.int .i64 kind)) fun z => ?_
    rw [kinds_at]
    rcases hk with rfl | rfl | rfl <;> simp [kwF, trackW, pointsW, crossW])
  clear hk
  go_enter Tryz.func12, Tryz.ntmps12
  go_wp2_with fail
  refine (kinds_any _).mono ?_
  rintro e w1 ⟨b, rfl, hkw, hb1⟩
  have hkw' : w1.ownsMap (H := Unit) Tryz.prog 9 (plainElem Tryz.prog 3) b 3 KindsD := hkw
  have hsz1 := hb1.size
  have hblt := hkw'.lt
  go_wp2_with (first | (at_range; refine wpList_range_own _ rfl _ 66 rfl 9 3 strKey Tryz.underlying66 _ b 3 KindsD rfl hkw' ?_; intro w2 hrg hg2 hs2) | go_in)
  go_frame
  have hB2 : Below w.heap.size w w2 := hb1.grown hg2 hsz1 (by simp)
  obtain ⟨r, hr⟩ : ∃ r, r = w1.heap.size := ⟨_, rfl⟩
  rw [← hr] at hrg hs2 ⊢
  have hrl : w.heap.size ≤ r := by omega
  clear hr hkw hkw' hb1 hg2 hblt
  go_loopw [3] (fun _ wr => ∃ left cnt, wr.ranges Tryz.prog 9 (plainElem Tryz.prog 3) b r 3 KindsD left cnt ∧ Below w.heap.size w wr ∧ wr.heap.size = r + 1 ∧ Hid (left (.string (kwF kind)) = true)) (fun _ wr => wr.rangeLeft b r)
  case atStart => exact ⟨_, _, hrg, hB2, hs2, HL⟩
  case round =>
    obtain ⟨left, cnt, hrg, hB, hsz, HLF⟩ := hrel
    clear hB2 hs2
    go_wp2_with (first | (at_next; refine wpList_next_ranges_si _ rfl _ rfl 9 3 .i64 strKey Tryz.underlying9 Tryz.underlying3 b r 3 KindsD left cnt rfl hrg ?_ ?_) | go_in)
    · intro _ hl0
      exfalso
      have := HLF.out
      rw [hl0] at this
      cases this
    · intro x c w3 cnt3 hl hat hrg3 hlt3 hg3 hs3 hen
      have hkx := kinds_word hat
      have hB3 : Below w.heap.size w w3 := hB.grown hg3 hB.size (fun k hk => by simp only [Option.some.injEq] at hk; omega)
      by_cases hc : c = kind
      · have HX : Hid (x = kwF kind) := Lib.hid (by rw [← hc]; exact hkx.1)
        have hcb : (c == kind) = true := by simp [hc]
        clear hc hkx hat hl hrg hrg3
        go_wp2_with fail
        go_ret
        exact ⟨ret_str HX.out, hB3⟩
      · have hcb : (c == kind) = false := by simp [hc]
        have HN : Hid ((left (.string (kwF kind)) && !(Lit.string (kwF kind)).sameKey (.string x)) = true) := Lib.hid (by
          rw [HLF.out, Bool.true_and, Maps.sameKey_ne]
          · rfl
          · intro e
            simp only [Lit.string.injEq] at e
            rw [hkx.1] at e
            have hk := HK.out
            have h2 := hkx.2
            rcases hk with rfl | rfl | rfl <;> rcases h2 with rfl | rfl | rfl <;> first | (exact hc rfl) | (simp [kwF, trackW, pointsW, crossW] at e))
        clear hc hkx hat hl
        go_wp2_with fail
        go_roundw
        case rel => exact ⟨_, cnt3, hrg3, hB3, by omega, HN⟩
        case measure => rw [hrg3.left_eq, hrg.left_eq]; omega
def AllPost (w : World) (l : List (List UInt8)) (e : Ending) (w' : World) : Prop := ∃ A cap, e = .returned (.slice A l.length cap) ∧ (l.length ≤ maxLen ∧ l.length ≤ cap) ∧ RdS cS w' (Lt w') A l ∧ Below w.heap.size w w'
set_option maxRecDepth 100000 in
set_option maxHeartbeats 4000000 in
theorem formatAll_any (ns : List Int) (A : Option Addr) (cap : Nat) (w : World) (E : Env w) (hr : RdS cI w (Lt w) A ns) (hl : ns.length ≤ 1000) : Calls Tryz.prog 13 #[.slice A ns.length cap] w (AllPost w (ns.map Lib.itoa)) := by
  obtain ⟨i0, hi0, hz0, hz1, hz2⟩ := info_parts infoStrT
  go_enter Tryz.func13, Tryz.ntmps13
  go_wp2_with fail
  go_loopw [3, 8] (fun s n wr => ∃ k : Nat, k ≤ ns.length ∧ n = .int .i64 k ∧ OwnR cS wr w.heap.size 9 s ((ns.take k).map Lib.itoa) 0 ∧ Below w.heap.size w wr) (fun _ n _ => ns.length - (intOf n).toNat)
  case atStart => exact ⟨0, Nat.zero_le _, rfl, OwnR.nil _ _ _ _ (Nat.zero_le _), Below.refl _ _⟩
  case round =>
    obtain ⟨k, hk, rfl, hown, hb⟩ := hrel
    have hsz := hb.size
    by_cases hlt : k < ns.length
    · have hki : (k : Int) < (ns.length : Int) := by omega
      obtain ⟨b, off, hA, hc⟩ := (hr.now hb).pick rfl
      obtain ⟨rfl, lb⟩ : A = _ ∧ _ := hA (by omega)
      obtain ⟨u, ⟨hu, hn1⟩, y0⟩ := hc k ns[k] (List.getElem?_eq_getElem hlt)
      simp only [List.cons.injEq, and_true] at hu
      subst hu
      have HT : Hid ((ns.take (k + 1)).map Lib.itoa = (ns.take k).map Lib.itoa ++ [Lib.itoa ns[k]]) := Lib.hid (by rw [List.take_succ_eq_append_getElem hlt, List.map_append]; rfl)
      have hkl : ((ns.take k).map Lib.itoa).length ≤ 100000 := by simp; omega
      have hil := itoaP_len ns[k] hn1
      clear hc
      generalize ns[k] = n at *
      generalize (ns.take k).map Lib.itoa = ws at *
      go_wp2_with fail
      refine (format_any n _ (E.now hb) hn1.1 hn1.2).mono ?_
      rintro e w2 ⟨rfl, hb2⟩
      have hB2 := bel_then hb hsz hb2
      have hown2 := hown.now hb2
      have hsz2 := hB2.size
      go_wp2_with (at_builtin; go_loud (refine wpList_append_r (c := cS) _ rfl _ _ 22 rfl w.heap.size 9 i0 _ 16 Tryz.underlying22 hi0 hz0 hz1 hz2 rfl (by decide) _ ws 0 rfl hown2 [_] (Lib.itoa n) ⟨rfl, by unfold maxLen; omega⟩ (fun u hu => by (simp at hu; subst hu; rfl)) _ rfl (by omega) (by omega) (by omega) ?_); intro v' w5 hown5 hf5 hs5)
      go_roundw
      case rel => exact ⟨k + 1, by omega, by go_num, by rw [HT.out]; exact hown5, hf5.keeps (Nat.le_refl _) hsz2 hB2⟩
      case measure => simp [intOf]; omega
    · have HE : Hid (ns.take k = ns) := Lib.hid (List.take_of_length_le (by omega))
      obtain ⟨A', c', rfl, hcap, hrd⟩ := hown.reads2
      go_wp2_with fail
      go_ret
      have h1 := HE.out
      exact ⟨A', c', by rw [h1]; rfl, by rw [h1] at hcap; exact hcap, by rw [h1] at hrd; exact hrd, hb⟩
end Go.Proofs.YtopoknocfoiiaaaGreatDoor
