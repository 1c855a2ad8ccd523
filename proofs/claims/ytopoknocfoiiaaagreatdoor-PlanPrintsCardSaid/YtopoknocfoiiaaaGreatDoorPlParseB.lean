/- The walk of plan.Parse: the function itself. -/
import Derived.Test.YtopoknocfoiiaaaGreatDoorPlParse
namespace Go.Proofs.YtopoknocfoiiaaaGreatDoor
set_option linter.unusedVariables false
set_option linter.unusedSimpArgs false
open Go.RowKit
attribute [local go_sem] bs_size bs_get bs_append bs_extract bs_toList
attribute [-go_sem] run_equalIn_agg
theorem lnC {s : List UInt8} {r : Lns × Nat × Int} (h : linesF s = r) (w : World) (E : Env w) (hs : s.length ≤ maxLen) : Calls Tryz.prog 22 #[.string (bs s)] w (LinesPost w r) := h ▸ lines_any s w E hs
/-- What holds while the lines are read. -/
structure PI (w2 : World) (k : Nat) (l : Lay) (p : Int) (wr : World) : Prop where
  rws : RWS wr w2.heap.size l p
  bel : Below w2.heap.size w2 wr
  sm : SmallL l k
  nm : l.name.length ≤ 40000
theorem PI.start (w2 : World) : PI w2 0 zL (-1) (w2.alloc (.cells #[.string { data := #[] }, .slice none 0 0, .slice none 0 0, .slice none 0 0, .slice none 0 0, .slice none 0 0, .int .i64 (-1)] 59)) :=
  ⟨⟨_, _, _, _, _, ⟨Blk.new _ _ _ _ rfl, OwnR.nil _ _ _ _ (Nat.zero_le _), OwnR.nil _ _ _ _ (Nat.zero_le _), OwnR.nil _ _ _ _ (Nat.zero_le _), OwnR.nil _ _ _ _ (Nat.zero_le _), OwnR.nil _ _ _ _ (Nat.zero_le _)⟩⟩, (Below.refl _ _).alloc (Nat.le_refl _) _, SmallL.zero, by simp [zL]⟩
theorem PI.step {w2 : World} {k : Nat} {l : Lay} {p : Int} {wr w' : World} (h : PI w2 k l p wr) {ln : List (List UInt8)} (hl : ∀ x ∈ ln, x.length ≤ 40000) (hr : RWS w' w2.heap.size (readL l p ln).1 (readL l p ln).2.1) (hb : Below w2.heap.size wr w') : PI w2 (k + 1) (readL l p ln).1 (readL l p ln).2.1 w' := ⟨hr, h.bel.trans hb, h.sm.read p ln, name_read h.nm hl⟩
theorem elL {w : World} {S : Nat → Prop} {A : Option Addr} {ls : Lns} (h : RdS (cL cS) w S A ls) {k : Nat} (hk : k < ls.length) : ∃ b off A' cap', A = some ⟨b, off, none⟩ ∧ w.cell? ⟨b, off + k, none⟩ = some (.slice A' ls[k].length cap') ∧ (ls[k].length ≤ maxLen ∧ ls[k].length ≤ cap') ∧ RdS cS w S A' ls[k] := by
  obtain ⟨b, off, h1, h2⟩ := h.pick rfl
  obtain ⟨u, h3, h4⟩ := h2 k _ (List.getElem?_eq_getElem hk)
  obtain ⟨A', cap', rfl, h5, h6⟩ := cLS_cell2 h3
  exact ⟨b, off, A', cap', (h1 (by omega)).1, h4, h5, h6⟩
theorem k_next {l : Lay} {p : Int} {k : Nat} {ls : Lns} {K : Lay × Nat × Int} (hk : k < ls.length) (h : readK l p k (ls.drop k) = K) (h0 : (readL l p ls[k]).2.2 = 0) : readK (readL l p ls[k]).1 (readL l p ls[k]).2.1 (k + 1) (ls.drop (k + 1)) = K := by
  rw [List.drop_eq_getElem_cons hk, readK_good h0] at h; exact h
theorem k_stop {l : Lay} {p : Int} {k : Nat} {ls : Lns} {K : Lay × Nat × Int} (hk : k < ls.length) (h : readK l p k (ls.drop k) = K) (h0 : (readL l p ls[k]).2.2 ≠ 0) : K = (zL, k + 1, (readL l p ls[k]).2.2) := by
  rw [List.drop_eq_getElem_cons hk, readK_bad h0] at h; exact h.symm
set_option maxRecDepth 100000 in
set_option maxHeartbeats 16000000 in
theorem parse_any (s : List UInt8) (w : World) (E : EnvS w) (hs : s.length ≤ maxLen) : Calls Tryz.prog 8 #[.string (bs s)] w (ParPost w (parL s)) := by
  obtain ⟨⟨ls, n, x⟩, hl⟩ : ∃ r, linesF s = r := ⟨_, rfl⟩
  have HL := Lib.hid fun W E => lnC hl W E hs
  have hR0 : ResB w w.heap.size zCs (w.alloc (.cells zCs 28)) := ⟨(Below.refl _ _).alloc (Nat.le_refl _) _, Nat.le_refl _, Blk.new _ _ _ _ rfl⟩
  unfold zCs at hR0
  by_cases hx : x = 0
  case neg =>
    have HF := Lib.hid (par_bad hl hx)
    have hxb : (x != 0) = true := by simpa using hx
    clear hl hx hs
    go_enter Tryz.func8, Tryz.ntmps8
    go_wp2_with fail
    refine (HL.out _ (E.toEnvR.toEnv.now hR0.bel)).mono ?_
    rintro e w2 ⟨A, cap, rfl, hml, hrd, hq⟩
    have hR2 := hR0.now hq
    have z0 := hR2.blk.cell 0
    have z1 := hR2.blk.cell 1
    have z2 := hR2.blk.cell 2
    have z3 := hR2.blk.cell 3
    have z4 := hR2.blk.cell 4
    have z5 := hR2.blk.cell 5
    have zf := hR2.blk.free
    simp only [List.getElem?_toArray, List.getElem?_cons_zero, List.getElem?_cons_succ] at z0 z1 z2 z3 z4 z5
    have HB := Lib.hid (put6_bel hR2 (.string { data := #[] }) (.slice none 0 0) (.slice none 0 0) (.slice none 0 0) (.slice none 0 0) (.slice none 0 0))
    clear hR0 hR2 hq hrd hml
    go_wp2_with fail
    exact bodyPost_ret (v := .tuple #[.agg #[.string { data := #[] }, .slice none 0 0, .slice none 0 0, .slice none 0 0, .slice none 0 0, .slice none 0 0], .int .i64 n, .int .i64 x]) (by simp [results, Tryz.results8, go_sem, z0, z1, z2, z3, z4, z5]) rfl (parPost_no HF.out rfl HB.out)
  subst hx
  by_cases hne : ls = []
  case pos =>
    subst hne
    have HF := Lib.hid (par_empty hl)
    clear hl hs
    go_enter Tryz.func8, Tryz.ntmps8
    go_wp2_with fail
    refine (HL.out _ (E.toEnvR.toEnv.now hR0.bel)).mono ?_
    rintro e w2 ⟨A, cap, rfl, hml, hrd, hq⟩
    have hR2 := hR0.now hq
    have z0 := hR2.blk.cell 0
    have z1 := hR2.blk.cell 1
    have z2 := hR2.blk.cell 2
    have z3 := hR2.blk.cell 3
    have z4 := hR2.blk.cell 4
    have z5 := hR2.blk.cell 5
    have zf := hR2.blk.free
    simp only [List.getElem?_toArray, List.getElem?_cons_zero, List.getElem?_cons_succ] at z0 z1 z2 z3 z4 z5
    have HB := Lib.hid (put6_bel hR2 (.string { data := #[] }) (.slice none 0 0) (.slice none 0 0) (.slice none 0 0) (.slice none 0 0) (.slice none 0 0))
    clear hR0 hR2 hq hrd hml
    go_wp2_with fail
    exact bodyPost_ret (v := .tuple #[.agg #[.string { data := #[] }, .slice none 0 0, .slice none 0 0, .slice none 0 0, .slice none 0 0, .slice none 0 0], .int .i64 1, .int .i64 4]) (by simp [results, Tryz.results8, go_sem, z0, z1, z2, z3, z4, z5]) rfl (parPost_no HF.out rfl HB.out)
  have hgo := par_go hl hne
  obtain ⟨hgood, htx, hn0, hshort⟩ := lines_ok hl
  have HG := Lib.hid (good_bound hgood)
  have hls : ls.length ≤ 32768 := by have := lines_few ls; rw [← htx] at this; omega
  have hlp := List.length_pos_iff.2 hne
  have hl0 : ((ls.length : Int) == 0) = false := by simp; omega
  have HP := Lib.hid hgo
  clear hl hs hgood htx hshort hgo hne hn0
  go_enter Tryz.func8, Tryz.ntmps8
  go_wp2_with fail
  refine (HL.out _ (E.toEnvR.toEnv.now hR0.bel)).mono ?_
  rintro e w2 ⟨A, cap, rfl, hml, hrd, hq⟩
  have hR2 := hR0.now hq
  have hrlt := hR2.blk.lt
  have E2 := E.now hR2.bel
  have hPI := PI.start w2
  clear hR0 hq HL
  dsimp only at hml hrd ⊢
  go_wp2_with fail
  go_loopw [31] (fun i wr => ∃ (k : Nat) (l : Lay) (p : Int), k ≤ ls.length ∧ i = .int .i64 k ∧ PI w2 k l p wr ∧ Hid (readK l p k (ls.drop k) = readK zL (-1) 0 ls)) (fun i _ => ls.length - (intOf i).toNat)
  case atStart => exact ⟨0, zL, -1, Nat.zero_le _, rfl, hPI, Lib.hid rfl⟩
  case round =>
    obtain ⟨k, l, p, hk, rfl, hb, HK⟩ := hrel
    clear hPI
    have hsz := hb.bel.size
    have hRr := hR2.low hrlt hb.bel
    have Er := E2.now (hb.bel.mono (Nat.le_refl _))
    by_cases hlt : k < ls.length
    · have hki : (k : Int) < (ls.length : Int) := by omega
      obtain ⟨b, off, A', cap', hA, y0, hcap, hr'⟩ := elL (hrd.low hb.bel) hlt
      obtain ⟨hne, hwl⟩ := HG.out _ (List.getElem_mem hlt)
      have HRD := Lib.hid (read_any wr Er.toEnvR _ l p hb.rws hb.nm ls[k] hne A' cap' hr' hcap hwl k hb.sm (by omega))
      rw [hA]
      by_cases h0 : (readL l p ls[k]).2.2 = 0
      · have HN := Lib.hid (k_next hlt HK.out h0)
        have HST := Lib.hid fun w' hr hbb => hb.step (w' := w') hwl hr hbb
        have H0 := Lib.hid h0
        clear h0 hA hr' hne hwl hb HK
        generalize ls[k] = ln at *
        go_wp2_with fail
        refine HRD.out.mono ?_
        rintro e w5 ⟨rfl, hb5, hr5⟩
        rw [H0.out]
        have hb6 := HST.out w5 (hr5 H0.out) hb5
        clear hr5
        go_wp2_with fail
        go_roundw
        case rel => exact ⟨k + 1, _, _, by omega, by go_num, hb6, HN⟩
        case measure => simp [intOf]; omega
      · obtain ⟨x, hx⟩ : ∃ x, (readL l p ls[k]).2.2 = x := ⟨_, rfl⟩
        have HF : Hid (parL s = (zL, k + 1, x)) := Lib.hid (by rw [HP.out, k_stop hlt HK.out h0, endL_bad h0, hx])
        have hxb : (x != 0) = true := by rw [hx] at h0; simpa using h0
        have HX := Lib.hid hx
        have hb1 := hb.bel
        clear h0 hA hr' hne hwl hb HK hx
        generalize ls[k] = ln at *
        go_wp2_with fail
        refine HRD.out.mono ?_
        rintro e w5 ⟨rfl, hb5, hr5⟩
        rw [HX.out]
        clear hr5
        have hR5 := hRr.low hrlt hb5
        have z0 := hR5.blk.cell 0
        have z1 := hR5.blk.cell 1
        have z2 := hR5.blk.cell 2
        have z3 := hR5.blk.cell 3
        have z4 := hR5.blk.cell 4
        have z5 := hR5.blk.cell 5
        have zf := hR5.blk.free
        simp only [List.getElem?_toArray, List.getElem?_cons_zero, List.getElem?_cons_succ] at z0 z1 z2 z3 z4 z5
        have HB := Lib.hid (put6_bel hR5 (.string { data := #[] }) (.slice none 0 0) (.slice none 0 0) (.slice none 0 0) (.slice none 0 0) (.slice none 0 0))
        have hk1 : (k : Int) + 1 ≤ 40000 := by omega
        clear hR5 hRr hR2
        go_wp2_with fail
        exact bodyPost_ret (v := .tuple #[.agg #[.string { data := #[] }, .slice none 0 0, .slice none 0 0, .slice none 0 0, .slice none 0 0, .slice none 0 0], .int .i64 ((k + 1 : Nat) : Int), .int .i64 x]) (by simp [results, Tryz.results8, go_sem, z0, z1, z2, z3, z4, z5]) rfl (parPost_no HF.out rfl HB.out)
    · have HE : Hid (readK zL (-1) 0 ls = (l, 0, 0)) := Lib.hid (by rw [← HK.out, List.drop_of_length_le (by omega)]; rfl)
      obtain ⟨v1, v2, v3, v4, v5, hrw⟩ := hb.rws
      obtain ⟨v, rfl, rfl, rfl, rfl, rfl, rfl, hv⟩ := hrw.lv2 (by have := hb.nm; unfold maxLen; omega)
      have hjt : v.l.jts.length ≤ 100000 := by have := hb.sm.s3; omega
      have x0 := hrw.x0
      have x1 := hrw.x1
      have x2 := hrw.x2
      have x3 := hrw.x3
      have x4 := hrw.x4
      have x5 := hrw.x5
      have hvr := hv wr (fun _ _ _ => rfl) (Nat.le_refl _)
      obtain ⟨c, hc⟩ : ∃ c, chkL v.l = c := ⟨_, rfl⟩
      have HC := Lib.hid (checkC v rfl hc wr Er hvr hjt)
      unfold lvA at HC
      have hbel := hb.bel
      clear hb HK hvr hrd
      by_cases h0 : c = 0
      case neg =>
        have HF : Hid (parL s = (zL, 0, c)) := Lib.hid (by rw [HP.out, HE.out, endL_chk hc h0])
        have hcb : (c != 0) = true := by simpa using h0
        clear hc h0 hv
        go_wp2_with fail
        refine HC.out.mono ?_
        rintro e w5 ⟨rfl, hq5⟩
        have hR5 := hRr.now hq5
        have z0 := hR5.blk.cell 0
        have z1 := hR5.blk.cell 1
        have z2 := hR5.blk.cell 2
        have z3 := hR5.blk.cell 3
        have z4 := hR5.blk.cell 4
        have z5 := hR5.blk.cell 5
        have zf := hR5.blk.free
        simp only [List.getElem?_toArray, List.getElem?_cons_zero, List.getElem?_cons_succ] at z0 z1 z2 z3 z4 z5
        have HB := Lib.hid (put6_bel hR5 (.string { data := #[] }) (.slice none 0 0) (.slice none 0 0) (.slice none 0 0) (.slice none 0 0) (.slice none 0 0))
        clear hR5 hRr hR2 x0 x1 x2 x3 x4 x5 hrw
        go_wp2_with fail
        exact bodyPost_ret (v := .tuple #[.agg #[.string { data := #[] }, .slice none 0 0, .slice none 0 0, .slice none 0 0, .slice none 0 0, .slice none 0 0], .int .i64 0, .int .i64 c]) (by simp [results, Tryz.results8, go_sem, z0, z1, z2, z3, z4, z5]) rfl (parPost_no HF.out rfl HB.out)
      case pos =>
        subst h0
        have HF : Hid (parL s = (v.l, 0, 0)) := Lib.hid (by rw [HP.out, HE.out, endL_ok hc])
        clear hc
        go_wp2_with fail
        refine HC.out.mono ?_
        rintro e w5 ⟨rfl, hq5⟩
        have hR5 := hRr.now hq5
        have z0 := hR5.blk.cell 0
        have z1 := hR5.blk.cell 1
        have z2 := hR5.blk.cell 2
        have z3 := hR5.blk.cell 3
        have z4 := hR5.blk.cell 4
        have z5 := hR5.blk.cell 5
        have zf := hR5.blk.free
        simp only [List.getElem?_toArray, List.getElem?_cons_zero, List.getElem?_cons_succ] at z0 z1 z2 z3 z4 z5
        have HB := Lib.hid (put6_bel hR5 (.string (bs v.l.name)) (.slice v.A1 v.l.secs.length v.c1) (.slice v.A2 v.l.els.length v.c2) (.slice v.A3 v.l.jts.length v.c3) (.slice v.A4 v.l.sgs.length v.c4) (.slice v.A5 v.l.bls.length v.c5))
        have HLV := Lib.hid (hv (put6 w5 w.heap.size (.string (bs v.l.name)) (.slice v.A1 v.l.secs.length v.c1) (.slice v.A2 v.l.els.length v.c2) (.slice v.A3 v.l.jts.length v.c3) (.slice v.A4 v.l.sgs.length v.c4) (.slice v.A5 v.l.bls.length v.c5)) (fun b hb1 hb2 => by rw [put6_far _ _ _ _ _ _ _ _ _ (by omega)]; exact hq5.block b hb2) (by rw [put6_size]; exact hq5.size))
        have hrw5 := hrw.now hq5
        clear x0 x1 x2 x3 x4 x5 hrw hv
        have x0 := hrw5.x0
        have x1 := hrw5.x1
        have x2 := hrw5.x2
        have x3 := hrw5.x3
        have x4 := hrw5.x4
        have x5 := hrw5.x5
        clear hR5 hRr hR2 hrw5
        go_wp2_with fail
        exact bodyPost_ret (v := .tuple #[lvA v, .int .i64 0, .int .i64 0]) (by unfold lvA; simp [results, Tryz.results8, go_sem, z0, z1, z2, z3, z4, z5]) rfl ⟨v, by rw [HF.out], by rw [HF.out]; rfl, HLV.out, HB.out⟩
end Go.Proofs.YtopoknocfoiiaaaGreatDoor
