/- The walk of plan.Print. -/
import Derived.Test.YtopoknocfoiiaaaGreatDoorPlPrintB
namespace Go.Proofs.YtopoknocfoiiaaaGreatDoor
set_option linter.unusedVariables false
set_option linter.unusedSimpArgs false
open Go.RowKit
attribute [local go_sem] bs_size bs_get bs_append bs_extract bs_toList
attribute [-go_sem] run_equalIn_agg
set_option maxRecDepth 100000 in
set_option maxHeartbeats 40000000 in
theorem print_any (v : LV) (w : World) (E : EnvS w) (hr : LvR w v) (hm3 : v.l.jts.length ≤ 1000) : Calls Tryz.prog 6 #[lvA v] w fun e w' => e = .returned (.tuple #[.string (bs (prtL v.l).1), .int .i64 (prtL v.l).2]) ∧ Below w.heap.size w w' := by
  have hb0 := Bx.new hr
  have x0 := hb0.x0
  have x1 := hb0.x1
  have x2 := hb0.x2
  have x3 := hb0.x3
  have x4 := hb0.x4
  have x5 := hb0.x5
  obtain ⟨c, hc⟩ : ∃ c, chkL v.l = c := ⟨_, rfl⟩
  have HC := Lib.hid fun W E h => checkC v rfl hc W E h (by omega)
  by_cases h0 : c = 0
  case neg =>
    have HP := Lib.hid (prt_bad hc h0)
    have hne : (c != 0) = true := by simpa using h0
    clear hc h0
    unfold lvA at HC ⊢
    go_enter Tryz.func6, Tryz.ntmps6
    go_wp2_with fail
    refine (HC.out _ (E.now hb0.bel) hb0.rd).mono ?_
    rintro e w1 ⟨rfl, hq⟩
    have hB := (hb0.now hq).bel
    clear x0 x1 x2 x3 x4 x5 hb0 hq
    go_wp2_with fail
    go_ret2
    exact ⟨by rw [HP.out]; rfl, hB⟩
  subst h0
  have HP := Lib.hid (prt_good hc)
  obtain ⟨hk1, hk2, hk3, hk4, hk5, hk6⟩ := chkL_ok hc
  obtain ⟨hs2, hs1, hs4, hs5⟩ := cnt_b hk1
  have hnm := (nmC_ok hk2).1
  have HNM := Lib.hid hnm
  have hel : ∀ e ∈ v.l.els, eltB v.l e = true := by unfold elB at hk3; simp only [Bool.and_eq_true, List.all_eq_true] at hk3; exact hk3.1
  have hjt : ∀ e ∈ v.l.jts, jntB v.l e = true := by have := (jnC_ok hk4).1; rwa [List.all_eq_true] at this
  have hsg : ∀ e ∈ v.l.sgs, sgnB v.l e = true := by have := (sgC_ok hk5).1; rwa [List.all_eq_true] at this
  have hbl : ∀ e ∈ v.l.bls, blsB v.l e = true := by have := (blC_ok hk6).1; rwa [List.all_eq_true] at this
  have HEL := Lib.hid hel
  have HJT := Lib.hid hjt
  have HSG := Lib.hid hsg
  have HBL := Lib.hid hbl
  have HLN : Hid (∀ i, lenAt v.l i ≤ 9000000) := Lib.hid (by
    intro i
    unfold lenAt
    cases hx : v.l.els[i.toNat]? with
    | none => simp
    | some e =>
      have := (eltB_iff (hel e (List.mem_of_getElem? hx))).2.1
      simp only [Option.map_some, Option.getD_some]
      omega)
  obtain ⟨i0, hi0, hz0, hz1, hz2⟩ := info_parts infoStrT
  obtain ⟨j0, hj0, hy0, hy1, hy2⟩ := info_parts infoStrsT
  have hnl : v.l.name.length ≤ maxLen := hr.nm
  have hwk : ∀ (w0 : World) (n : Nat), 0 < w0.heap.size + n + 1 := fun _ _ => by omega
  clear hc hk1 hk2 hk3 hk4 hk5 hk6 hnm hel hjt hsg hbl hwk
  unfold lvA at HC ⊢
  go_enter Tryz.func6, Tryz.ntmps6
  go_wp2_with fail
  refine (HC.out _ (E.now hb0.bel) hb0.rd).mono ?_
  rintro e w1 ⟨rfl, hq⟩
  have hb1 := hb0.now hq
  clear x0 x1 x2 x3 x4 x5 hb0 hq HC
  have x0 := hb1.x0
  have hlt1 := hb1.lt
  have hba := hb1.alloc (.cells #[.string { data := #[108, 97, 121, 111, 117, 116] }, .string (bs v.l.name)] 9)
  have hbb := hba.alloc (.cells #[.slice (some ⟨w1.heap.size, 0, none⟩) 2 2] 22)
  have x1 := hbb.x1
  have hk1 : Blk ((w1.alloc (.cells #[.string { data := #[108, 97, 121, 111, 117, 116] }, .string (bs v.l.name)] 9)).alloc (.cells #[.slice (some ⟨w1.heap.size, 0, none⟩) 2 2] 22)) w1.heap.size 9 (([layoutW, v.l.name] : List (List UInt8)).map fun x => Value.string (bs x)).toArray := (Blk.new w1 _ _ _ rfl).alloc _
  have hk2 : Blk ((w1.alloc (.cells #[.string { data := #[108, 97, 121, 111, 117, 116] }, .string (bs v.l.name)] 9)).alloc (.cells #[.slice (some ⟨w1.heap.size, 0, none⟩) 2 2] 22)) (w1.heap.size + 1) 22 #[.slice (some ⟨w1.heap.size, 0, none⟩) 2 2] := Blk.new _ _ _ _ (by simp)
  have hrow := row_one (base := w.heap.size) hk2 (words := [layoutW, v.l.name]) rfl hk1 (fun x hx => by simp only [List.mem_cons, List.not_mem_nil, or_false] at hx; rcases hx with rfl | rfl; exact Nat.le_trans (show layoutW.length ≤ 6 by decide) (by unfold maxLen; omega); exact hnl) (by decide) (by unfold maxLen; simp) (by omega)
  have hln : Ln w _ v _ _ := ⟨hbb, hrow⟩
  clear hk1 hk2 hrow hba hbb hb1
  go_wp2_with fail
  clear x0 x1
  generalize (w1.alloc (.cells #[.string { data := #[108, 97, 121, 111, 117, 116] }, .string (bs v.l.name)] 9)).alloc (.cells #[.slice (some ⟨w1.heap.size, 0, none⟩) 2 2] 22) = w2 at *
  clear hlt1
  go_loopw [5, 29] (fun s n wr => ∃ k : Nat, k ≤ v.l.secs.length ∧ n = .int .i64 k ∧ Ln w wr v s ([layoutW, v.l.name] :: (v.l.secs.take k).map secW)) (fun _ n _ => v.l.secs.length - (intOf n).toNat)
  case atStart => exact ⟨0, Nat.zero_le _, rfl, hln⟩
  case round =>
    obtain ⟨k, hk, rfl, hl⟩ := hrel
    clear hln
    have hsz := hl.bel.size
    have hlt0 := hl.1.lt
    by_cases hlt : k < v.l.secs.length
    · have hki : (k : Int) < (v.l.secs.length : Int) := by omega
      obtain ⟨b, off, hA, lb, ho, y0⟩ := hl.1.rd.r1.elS hlt
      have HT := Lib.hid (map_take secW hlt)
      have hlen : ([layoutW, v.l.name] :: (v.l.secs.take k).map secW).length ≤ 100 := by simp; omega
      rw [hA]
      clear hA
      generalize v.l.secs[k] = q at *
      obtain ⟨lns, hlns⟩ : ∃ x, [layoutW, v.l.name] :: (v.l.secs.take k).map secW = x := ⟨_, rfl⟩
      rw [hlns] at hl hlen
      have HLNS := Lib.hid hlns
      clear hlns
      have hl1 := hl.alloc (.cells #[.string { data := #[115, 101, 99, 116, 105, 111, 110] }, .string (bs q)] 9)
      have hk1 : Blk (wr.alloc (.cells #[.string { data := #[115, 101, 99, 116, 105, 111, 110] }, .string (bs q)] 9)) wr.heap.size 9 ((secW q).map fun x => Value.string (bs x)).toArray := Blk.new wr _ _ _ rfl
      have hrd := line_rd (T' := 22) hk1 (fun x hx => by simp only [secW, List.mem_cons, List.not_mem_nil, or_false] at hx; rcases hx with rfl | rfl; exact Nat.le_trans (show sectionW.length ≤ 7 by decide) (by unfold maxLen; omega); exact ho) (by decide) (by unfold maxLen; simp [secW])
      go_wp2_with (at_builtin; go_loud (refine wpList_append_r (c := cL cS) _ rfl _ _ 47 rfl w.heap.size 22 j0 _ 24 Tryz.underlying47 hj0 hy0 hy1 hy2 rfl (by decide) _ lns _ rfl hl1.2 [_] (secW q) hrd (fun u hu => by (simp at hu; subst hu; rfl)) _ (by simp [Act.eval]) (by omega) (by omega) (by simp; omega) ?_); intro v' w5 hown5 hf5 hs5)
      have hl5 := hl1.push hr hown5 hf5
      go_roundw
      case rel => exact ⟨k + 1, by omega, by go_num, by rw [HT.out, ← List.cons_append, HLNS.out]; exact hl5⟩
      case measure => simp [intOf]; omega
    · have HE : Hid ([layoutW, v.l.name] :: (v.l.secs.take k).map secW = [layoutW, v.l.name] :: v.l.secs.map secW) := Lib.hid (by rw [List.take_of_length_le (by omega)])
      rw [HE.out] at hl
      have x2 := hl.1.x2
      clear hk HE
      go_wp2_with fail
      clear x2
      go_loopw [5, 42] (fun s n wr => ∃ k : Nat, k ≤ v.l.els.length ∧ n = .int .i64 k ∧ Ln w wr v s (([layoutW, v.l.name] :: v.l.secs.map secW) ++ (v.l.els.take k).map (eltW v.l))) (fun _ n _ => v.l.els.length - (intOf n).toNat)
      case atStart => exact ⟨0, Nat.zero_le _, rfl, by simpa using hl⟩
      case round =>
        obtain ⟨k, hk, rfl, hl⟩ := hrel
        have hsz := hl.bel.size
        have hlt0 := hl.1.lt
        by_cases hlt : k < v.l.els.length
        · have hki : (k : Int) < (v.l.els.length : Int) := by omega
          obtain ⟨b, off, hA, lb, ho, y0, y1, y2, y3, y4, y5, y6⟩ := hl.1.rd.r2.elE hlt
          have heb := eltB_iff (HEL.out v.l.els[k] (List.getElem_mem hlt))
          obtain ⟨e1, e2, e3, e4, e5, e6, e7⟩ := heb
          obtain ⟨ks, hks⟩ := Int.eq_ofNat_of_zero_le e5.1
          have hksl : ks < v.l.secs.length := by omega
          have hksi : (ks : Int) < (v.l.secs.length : Int) := by omega
          obtain ⟨b1, o1, hA1, lb1, hos, z0⟩ := hr.r1.elS hksl
          have lb1' : b1 < w.heap.size := lb1
          have HSC : Hid (scAt v.l v.l.els[k].sec = v.l.secs[ks]) := Lib.hid (by unfold scAt; rw [hks, Int.toNat_natCast, List.getElem?_eq_getElem hksl]; rfl)
          have hkd : v.l.els[k].kind = 1 ∨ v.l.els[k].kind = 2 ∨ v.l.els[k].kind = 3 := by omega
          have hkw : (kwF v.l.els[k].kind).length ≤ 12 := by rcases hkd with h | h | h <;> rw [h] <;> decide
          have HKW := Lib.hid fun W => kindWord_any v.l.els[k].kind W hkd
          have HT := Lib.hid (map_take (eltW v.l) hlt)
          have HEW : Hid (eltW v.l v.l.els[k] = kwF v.l.els[k].kind :: v.l.els[k].name :: v.l.secs[ks] :: (numsE v.l.els[k]).map Lib.itoa) := Lib.hid (by unfold eltW; rw [HSC.out])
          have hlen : (([layoutW, v.l.name] :: v.l.secs.map secW) ++ (v.l.els.take k).map (eltW v.l)).length ≤ 200 := by simp; omega
          obtain ⟨lns, hlns⟩ : ∃ x, ([layoutW, v.l.name] :: v.l.secs.map secW) ++ (v.l.els.take k).map (eltW v.l) = x := ⟨_, rfl⟩
          rw [hlns] at hl hlen
          have HLNS := Lib.hid hlns
          have hla := hl.alloc (.cells #[.string (bs v.l.els[k].name), .int .i64 v.l.els[k].kind, .int .i64 v.l.els[k].len, .int .i64 v.l.els[k].grd, .int .i64 v.l.els[k].spd, .int .i64 v.l.els[k].slow, .int .i64 v.l.els[k].sec] 35)
          have hblk : Blk (wr.alloc (.cells #[.string (bs v.l.els[k].name), .int .i64 v.l.els[k].kind, .int .i64 v.l.els[k].len, .int .i64 v.l.els[k].grd, .int .i64 v.l.els[k].spd, .int .i64 v.l.els[k].slow, .int .i64 v.l.els[k].sec] 35)) wr.heap.size 35 #[.string (bs v.l.els[k].name), .int .i64 v.l.els[k].kind, .int .i64 v.l.els[k].len, .int .i64 v.l.els[k].grd, .int .i64 v.l.els[k].spd, .int .i64 v.l.els[k].slow, .int .i64 v.l.els[k].sec] := Blk.new _ _ _ _ rfl
          have hes := ES.mk hla hA1 hks hblk ((hla.bel.cell (p := ⟨b1, o1 + ks, none⟩) lb1').trans z0) lb1'
          rw [hA, hA1]
          obtain ⟨ho1, ho2, ho3, ho4, ho5, ho6, ho7⟩ := ho
          clear hlns hA hA1 z0 HSC hkd hks e1 e7
          have HFA : Hid (∀ (W : World) (g : Nat), ES w v u5 lns (some ⟨b1, o1, none⟩) wr.heap.size v.l.els[k] ks b1 o1 v.l.secs[ks] W → Blk W g 3 #[.int .i64 v.l.els[k].len, .int .i64 v.l.els[k].grd, .int .i64 v.l.els[k].spd] → Calls Tryz.prog 13 #[.slice (some ⟨g, 0, none⟩) 3 3] W (AllPost W [Lib.itoa v.l.els[k].len, Lib.itoa v.l.els[k].grd, Lib.itoa v.l.els[k].spd])) := Lib.hid fun W g h hB =>
            formatAll_any [v.l.els[k].len, v.l.els[k].grd, v.l.els[k].spd] (some ⟨g, 0, none⟩) 3 W (E.toEnvR.toEnv.now h.all.1.bel) (rds_ints hB (fun n hn => by simp only [List.mem_cons, List.not_mem_nil, or_false] at hn; rcases hn with rfl | rfl | rfl <;> assumption)) (by simp)
          have HFM : Hid (∀ (W : World), Below w.heap.size w W → Calls Tryz.prog 14 #[.int .i64 v.l.els[k].slow] W fun e w' => e = .returned (.string (bs (Lib.itoa v.l.els[k].slow))) ∧ Below W.heap.size W w') := Lib.hid fun W h => format_any _ W (E.toEnvR.toEnv.now h) ho6.1 ho6.2
          have hils := itoaP_len v.l.els[k].slow ho6
          generalize v.l.els[k] = q at *
          generalize v.l.secs[ks] = sw at *
          go_wp2_with fail
          have hhs := hes.all.1
          generalize wr.alloc (.cells #[.string (bs q.name), .int .i64 q.kind, .int .i64 q.len, .int .i64 q.grd, .int .i64 q.spd, .int .i64 q.slow, .int .i64 q.sec] 35) = W0 at *
          obtain ⟨ge, hge⟩ : ∃ ge, ge = wr.heap.size := ⟨_, rfl⟩
          rw [← hge] at hes HFA ⊢
          clear hblk hla hl hge hhs y0 y1 y2 y3 y4 y5 y6 hsz hlt0 lb
          go_region_held3 (fun w' => w'.cell? ⟨ge, 0, none⟩ = some (.string (bs q.name)) ∧ w'.cell? ⟨ge, 1, none⟩ = some (.int .i64 q.kind) ∧ w'.cell? ⟨ge, 2, none⟩ = some (.int .i64 q.len) ∧ w'.cell? ⟨ge, 3, none⟩ = some (.int .i64 q.grd) ∧ w'.cell? ⟨ge, 4, none⟩ = some (.int .i64 q.spd) ∧ w'.cell? ⟨ge, 6, none⟩ = some (.int .i64 (ks : Int)) ∧ w'.cell? ⟨w.heap.size, 1, none⟩ = some (.slice (some ⟨b1, o1, none⟩) v.l.secs.length v.c1) ∧ w'.cell? ⟨b1, o1 + ks, none⟩ = some (.string (bs sw)) ∧ (Ln w w' v u5 lns ∧ v.A1 = some ⟨b1, o1, none⟩ ∧ q.sec = (ks : Int) ∧ b1 < w.heap.size ∧ Blk w' ge 35 #[.string (bs q.name), .int .i64 q.kind, .int .i64 q.len, .int .i64 q.grd, .int .i64 q.spd, .int .i64 q.slow, .int .i64 q.sec])) (first | assumption | exact es_drew ‹_› | (refine ES.now ‹_› ?_; first | assumption | exact (Below.refl _ _).alloc (Nat.le_refl _) _)) (first
            | (go_at_call 12; refine (HKW.out _).mono ?_; rintro e wq ⟨rfl, hq⟩)
            | (go_at_call 13; refine (HFA.out _ _ (by assumption) (by (repeat' (first | (with_reducible assumption) | (with_reducible refine Blk.new _ _ _ _ (by first | (with_reducible rfl) | (simp; done) | omega)) | (with_reducible refine Blk.alloc ?_ _) | (with_reducible refine Blk.drew ?_) | (with_reducible refine Blk.now ?_ (by assumption)))))).mono ?_; rintro e wq ⟨A6, c6, rfl, hl6, hr6, hq⟩)
            | (refine step_at_append (by rfl) ?_; refine step_append_wordsN rfl _ _ 22 rfl 9 i0 _ Tryz.underlying22 hi0 hz0 hz1 hz2 rfl _ [kwF q.kind, q.name, sw] 3 rfl rfl _ (by first | (with_reducible exact Blk.new _ _ _ _ (by first | rfl | (simp; done))) | (with_reducible exact (Blk.new _ _ _ _ (by first | rfl | (simp; done))).now hq) | (with_reducible exact ((Blk.new _ _ _ _ (by first | rfl | (simp; done))).alloc _).now hq)) (by rfl) _ 3 _ [Lib.itoa q.len, Lib.itoa q.grd, Lib.itoa q.spd] rfl (by simp) (by simp) rfl (by first | exact hr6 | exact hr6.now ((Below.refl _ _).alloc (Nat.le_refl _) _) | exact (hr6.now hq).now ((Below.refl _ _).alloc (Nat.le_refl _) _)) (fun x hx => by (simp only [List.mem_cons, List.not_mem_nil, or_false] at hx; rcases hx with rfl | rfl | rfl; exact Nat.le_trans hkw (by unfold maxLen; omega); exact ho1; exact hos)) 6 rfl ?_; intro A7 c7 wq hown7 hq; have hlw := Lw.mk (ES.all (by assumption : ES w v u5 lns (some ⟨b1, o1, none⟩) ge q ks b1 o1 sw _)).1 hq hown7))
          all_goals (
            have hes2 := (by assumption : ES w v u5 lns (some ⟨b1, o1, none⟩) ge q ks b1 o1 sw _)
            obtain ⟨_, d1, _, _, _, _, _, _, _⟩ := id hes2
            have d5 := hes2.all.2.2.2.2.cell 5
            have hBw := hes2.all.1.bel
            have hszw := hBw.size
            clear hq
            by_cases h2k : q.kind = 2
            · have h2b : (q.kind == 2) = true := by simp [h2k]
              have HW : Hid (eltW v.l q = ([kwF q.kind, q.name, sw] ++ [Lib.itoa q.len, Lib.itoa q.grd, Lib.itoa q.spd]) ++ [Lib.itoa q.slow]) := Lib.hid (by rw [HEW.out]; simp [numsE, h2k])
              clear h2k
              obtain ⟨Bw, hw1, hw2, hw3, hw4, hw5⟩ := hlw
              clear hes2
              go_wp2_with fail
              refine (HFM.out _ hBw).mono ?_
              rintro e w8 ⟨rfl, hq8⟩
              have hw3' := hw3.now hq8
              have hw1' := hw1.now hq8
              have hw2' := hw2.now hq8
              have hs8 := hq8.size
              clear d1 d5 hw1 hw2 hw3 hown7
              have hw1a := hw1'
              have hBs8 : Bw ≤ w8.heap.size := Nat.le_trans hw5 hs8
              go_wp2_with (first | (at_builtin; go_loud (refine wpList_append_r (c := cS) _ rfl _ _ 22 rfl Bw 9 i0 _ 16 Tryz.underlying22 hi0 hz0 hz1 hz2 rfl (by decide) _ ([kwF q.kind, q.name, sw] ++ [Lib.itoa q.len, Lib.itoa q.grd, Lib.itoa q.spd]) 0 rfl hw3' [_] (Lib.itoa q.slow) ⟨rfl, by unfold maxLen; omega⟩ (fun u hu => by (simp at hu; subst hu; rfl)) _ rfl (by simp) (by omega) hBs8 ?_); intro v9 w9 hown9 hf9 hs9; have hlw9 := Lw.push hw1a hr hw2' hw4 hown9 hf9 hBs8; obtain ⟨hlC, A9, c9, rfl, hrdC⟩ := hlw9.close) | (at_builtin; refine wpList_append_r (c := cL cS) _ rfl _ _ 47 rfl w.heap.size 22 j0 _ 24 Tryz.underlying47 hj0 hy0 hy1 hy2 rfl (by decide) _ lns _ rfl hlC.2 [_] _ hrdC (fun u hu => by (simp at hu; subst hu; rfl)) _ rfl (by omega) (by omega) hlC.bel.size ?_; intro v5 w5 hown5 hf5 hs5))
              have hl5 := hlC.push hr hown5 hf5
              go_roundw
              case rel => exact ⟨k + 1, by omega, by go_num, by rw [HT.out, ← List.append_assoc, HLNS.out, HW.out]; exact hl5⟩
              case measure => simp [intOf]; omega
            · have h2b : (q.kind == 2) = false := by simp [h2k]
              have HW : Hid (eltW v.l q = [kwF q.kind, q.name, sw] ++ [Lib.itoa q.len, Lib.itoa q.grd, Lib.itoa q.spd]) := Lib.hid (by rw [HEW.out]; simp [numsE, h2k])
              clear h2k d5
              obtain ⟨hlC, A9, c9, hv9, hrdC⟩ := hlw.close
              clear hv9 hes2
              go_wp2_with (at_builtin; refine wpList_append_r (c := cL cS) _ rfl _ _ 47 rfl w.heap.size 22 j0 _ 24 Tryz.underlying47 hj0 hy0 hy1 hy2 rfl (by decide) _ lns _ rfl hlC.2 [_] _ hrdC (fun u hu => by (simp at hu; subst hu; rfl)) _ rfl (by omega) (by omega) hlC.bel.size ?_; intro v5 w5 hown5 hf5 hs5)
              have hl5 := hlC.push hr hown5 hf5
              go_roundw
              case rel => exact ⟨k + 1, by omega, by go_num, by rw [HT.out, ← List.append_assoc, HLNS.out, HW.out]; exact hl5⟩
              case measure => simp [intOf]; omega)
        · have HE : Hid (([layoutW, v.l.name] :: v.l.secs.map secW) ++ (v.l.els.take k).map (eltW v.l) = ([layoutW, v.l.name] :: v.l.secs.map secW) ++ v.l.els.map (eltW v.l)) := Lib.hid (by rw [List.take_of_length_le (by omega)])
          rw [HE.out] at hl
          have x3 := hl.1.x3
          clear hk HE
          go_wp2_with fail
          clear x3
          go_loopw [5, 84] (fun s n wr => ∃ k : Nat, k ≤ v.l.jts.length ∧ n = .int .i64 k ∧ Ln w wr v s ((([layoutW, v.l.name] :: v.l.secs.map secW) ++ v.l.els.map (eltW v.l)) ++ (v.l.jts.take k).map (jntW v.l))) (fun _ n _ => v.l.jts.length - (intOf n).toNat)
          case atStart => exact ⟨0, Nat.zero_le _, rfl, by simpa using hl⟩
          case round =>
            obtain ⟨k, hk, rfl, hl⟩ := hrel
            by_cases hlt : k < v.l.jts.length
            · have hki : (k : Int) < (v.l.jts.length : Int) := by omega
              obtain ⟨b, off, hA, lb, ho, y0, y1, y2, y3⟩ := hl.1.rd.r3.elJ hlt
              obtain ⟨hja, hjb, _⟩ := jntB_iff (HJT.out v.l.jts[k] (List.getElem_mem hlt))
              obtain ⟨⟨h0ka, h1ka⟩, h2ka, h3ka⟩ := exB_iff hja
              obtain ⟨⟨h0kb, h1kb⟩, h2kb, h3kb⟩ := exB_iff hjb
              obtain ⟨ka, hka⟩ := Int.eq_ofNat_of_zero_le (h0ka)
              have lka : ka < v.l.els.length := by omega
              have ika : (ka : Int) < (v.l.els.length : Int) := by omega
              obtain ⟨kb, hkb⟩ := Int.eq_ofNat_of_zero_le (h0kb)
              have lkb : kb < v.l.els.length := by omega
              have ikb : (kb : Int) < (v.l.els.length : Int) := by omega
              obtain ⟨b2, o2, hA2, lb2, honka, zka, _⟩ := hr.r2.elE lka
              obtain ⟨b2', o2', hA2', _, honkb, zkb, _⟩ := hr.r2.elE lkb
              obtain ⟨rfl, rfl⟩ : b2 = b2' ∧ o2 = o2' := by rw [hA2] at hA2'; simp only [Option.some.injEq, Addr.mk.injEq] at hA2'; exact ⟨hA2'.1, hA2'.2.1⟩
              have HT := Lib.hid (map_take (jntW v.l) hlt)
              have hlen : ((([layoutW, v.l.name] :: v.l.secs.map secW) ++ v.l.els.map (eltW v.l)) ++ (v.l.jts.take k).map (jntW v.l)).length ≤ 2000 := by simp; omega
              obtain ⟨lns, hlns⟩ : ∃ x, (([layoutW, v.l.name] :: v.l.secs.map secW) ++ v.l.els.map (eltW v.l)) ++ (v.l.jts.take k).map (jntW v.l) = x := ⟨_, rfl⟩
              rw [hlns] at hl hlen
              have HLNS := Lib.hid hlns
              have hla := hl.alloc (.cells #[.int .i64 v.l.jts[k].a.el, .int .i64 v.l.jts[k].a.sd, .int .i64 v.l.jts[k].b.el, .int .i64 v.l.jts[k].b.sd] 39)
              have hblk : Blk (wr.alloc (.cells #[.int .i64 v.l.jts[k].a.el, .int .i64 v.l.jts[k].a.sd, .int .i64 v.l.jts[k].b.el, .int .i64 v.l.jts[k].b.sd] 39)) wr.heap.size 39 #[.int .i64 v.l.jts[k].a.el, .int .i64 v.l.jts[k].a.sd, .int .i64 v.l.jts[k].b.el, .int .i64 v.l.jts[k].b.sd] := Blk.new _ _ _ _ rfl
              have HF := Lib.hid (⟨hA2, lb2, hka, zka, hkb, zkb⟩ : JSF w v _ v.l.jts[k] _ _ _ _ _ _)
              have hss := JS.mk HF.out hla hblk
              have HFM : Hid (∀ (W : World) (n : Int), JS w v u5 lns (some ⟨b2, o2, none⟩) wr.heap.size v.l.jts[k] b2 o2 ka kb v.l.els[ka].name v.l.els[kb].name W → I64n n → Calls Tryz.prog 14 #[.int .i64 n] W fun e w' => e = .returned (.string (bs (Lib.itoa n))) ∧ Below W.heap.size W w') := Lib.hid fun W n h hn => format_any n W (E.toEnvR.toEnv.now h.all.1.bel) hn.1 hn.2
              have HWD : Hid (jntW v.l v.l.jts[k] = [jointW, v.l.els[ka].name, Lib.itoa v.l.jts[k].a.sd, v.l.els[kb].name, Lib.itoa v.l.jts[k].b.sd]) := Lib.hid (by unfold jntW; rw [nmAt_in hka lka, nmAt_in hkb lkb])
              have ila := itoaP_len v.l.jts[k].a.sd ho.1.2
              have ilb := itoaP_len v.l.jts[k].b.sd ho.2.2
              have oa := ho.1.2
              have ob := ho.2.2
              have HWL : Hid (∀ x ∈ [jointW, v.l.els[ka].name, Lib.itoa v.l.jts[k].a.sd, v.l.els[kb].name, Lib.itoa v.l.jts[k].b.sd], x.length ≤ maxLen) := Lib.hid (by
                intro x hx
                simp only [List.mem_cons, List.not_mem_nil, or_false] at hx
                rcases hx with rfl | rfl | rfl | rfl | rfl
                · exact Nat.le_trans (show jointW.length ≤ 5 by decide) (by unfold maxLen; omega)
                · exact honka.1
                · unfold maxLen; omega
                · exact honkb.1
                · unfold maxLen; omega)
              rw [hA, hA2]
              clear hlns hA hA2 lb2 zka hka zkb hkb
              generalize v.l.jts[k] = q at *
              have hleka := honka.1
              generalize hnnka : v.l.els[ka].name = nka at *
              have hlekb := honkb.1
              generalize hnnkb : v.l.els[kb].name = nkb at *
              go_wp2_with fail
              generalize wr.alloc (.cells #[.int .i64 q.a.el, .int .i64 q.a.sd, .int .i64 q.b.el, .int .i64 q.b.sd] 39) = W0 at *
              obtain ⟨gq, hgq⟩ : ∃ g, g = wr.heap.size := ⟨_, rfl⟩
              rw [← hgq] at hss HFM ⊢
              clear hblk hla hl hgq lb y0 y1 y2 y3
              go_region_held3 (fun w' => w'.cell? ⟨gq, 1, none⟩ = some (.int .i64 q.a.sd) ∧ w'.cell? ⟨gq, 3, none⟩ = some (.int .i64 q.b.sd) ∧ w'.cell? ⟨gq, 0, none⟩ = some (.int .i64 (ka : Int)) ∧ w'.cell? ⟨gq, 2, none⟩ = some (.int .i64 (kb : Int)) ∧ w'.cell? ⟨w.heap.size, 2, none⟩ = some (.slice (some ⟨b2, o2, none⟩) v.l.els.length v.c2) ∧ w'.cell? ⟨b2, o2 + ka * 7, none⟩ = some (.string (bs nka)) ∧ w'.cell? ⟨b2, o2 + kb * 7, none⟩ = some (.string (bs nkb)) ∧ (Ln w w' v u5 lns ∧ Blk w' gq 39 #[.int .i64 q.a.el, .int .i64 q.a.sd, .int .i64 q.b.el, .int .i64 q.b.sd])) (first | assumption | (refine JS.now HF.out ‹_› ?_; first | assumption | exact (Below.refl _ _).drew | exact (Below.refl _ _).alloc (Nat.le_refl _) _)) (first
                | (go_at_call 14; (refine (HFM.out _ _ (by assumption) (by assumption)).mono ?_); rintro e wq ⟨rfl, hq⟩)
                | (refine step_at_append (by rfl) ?_; refine step_push_line rfl _ _ rfl hr j0 hj0 hy0 hy1 hy2 _ lns rfl _ _ _ (JS.all (by assumption : JS w v u5 lns (some ⟨b2, o2, none⟩) gq q b2 o2 ka kb nka nkb _)).1 [jointW, nka, Lib.itoa q.a.sd, nkb, Lib.itoa q.b.sd] rfl rfl rfl HWL.out (by simp) _ rfl (by simp) (by omega) ?_; intro v9 w9 hl9 ho9 hf9; have hs9 := JS.push HF.out (by assumption : JS w v u5 lns (some ⟨b2, o2, none⟩) gq q b2 o2 ka kb nka nkb _) ho9 hf9)
                | fail)
              all_goals (
                go_wp2_with fail
                go_roundw
                case rel => exact ⟨k + 1, by omega, by go_num, by rw [HT.out, ← List.append_assoc, HLNS.out, HWD.out]; exact hl9⟩
                case measure => simp [intOf]; omega)
            · have HE : Hid ((([layoutW, v.l.name] :: v.l.secs.map secW) ++ v.l.els.map (eltW v.l)) ++ (v.l.jts.take k).map (jntW v.l) = (([layoutW, v.l.name] :: v.l.secs.map secW) ++ v.l.els.map (eltW v.l)) ++ v.l.jts.map (jntW v.l)) := Lib.hid (by rw [List.take_of_length_le (by omega)])
              rw [HE.out] at hl
              have x4 := hl.1.x4
              clear hk HE
              go_wp2_with fail
              clear x4
              go_loopw [5, 120] (fun s n wr => ∃ k : Nat, k ≤ v.l.sgs.length ∧ n = .int .i64 k ∧ Ln w wr v s (((([layoutW, v.l.name] :: v.l.secs.map secW) ++ v.l.els.map (eltW v.l)) ++ v.l.jts.map (jntW v.l)) ++ (v.l.sgs.take k).map (sgnW v.l))) (fun _ n _ => v.l.sgs.length - (intOf n).toNat)
              case atStart => exact ⟨0, Nat.zero_le _, rfl, by simpa using hl⟩
              case round =>
                obtain ⟨k, hk, rfl, hl⟩ := hrel
                by_cases hlt : k < v.l.sgs.length
                · have hki : (k : Int) < (v.l.sgs.length : Int) := by omega
                  obtain ⟨b, off, hA, lb, ho, y0, y1, y2, y3⟩ := hl.1.rd.r4.elG hlt
                  obtain ⟨hja, hjb, hjc⟩ := sgnB_iff (HSG.out v.l.sgs[k] (List.getElem_mem hlt))
                  obtain ⟨⟨h0ka, h1ka⟩, h2ka, h3ka⟩ := exB_iff hja
                  obtain ⟨ka, hka⟩ := Int.eq_ofNat_of_zero_le (h0ka)
                  have lka : ka < v.l.els.length := by omega
                  have ika : (ka : Int) < (v.l.els.length : Int) := by omega
                  obtain ⟨b2, o2, hA2, lb2, honka, zka, _⟩ := hr.r2.elE lka
                  have HT := Lib.hid (map_take (sgnW v.l) hlt)
                  have hlen : (((([layoutW, v.l.name] :: v.l.secs.map secW) ++ v.l.els.map (eltW v.l)) ++ v.l.jts.map (jntW v.l)) ++ (v.l.sgs.take k).map (sgnW v.l)).length ≤ 2000 := by simp; omega
                  obtain ⟨lns, hlns⟩ : ∃ x, ((([layoutW, v.l.name] :: v.l.secs.map secW) ++ v.l.els.map (eltW v.l)) ++ v.l.jts.map (jntW v.l)) ++ (v.l.sgs.take k).map (sgnW v.l) = x := ⟨_, rfl⟩
                  rw [hlns] at hl hlen
                  have HLNS := Lib.hid hlns
                  have hla := hl.alloc (.cells #[.string (bs v.l.sgs[k].name), .int .i64 v.l.sgs[k].pos.el, .int .i64 v.l.sgs[k].pos.sd, .int .i64 v.l.sgs[k].ovl] 41)
                  have hblk : Blk (wr.alloc (.cells #[.string (bs v.l.sgs[k].name), .int .i64 v.l.sgs[k].pos.el, .int .i64 v.l.sgs[k].pos.sd, .int .i64 v.l.sgs[k].ovl] 41)) wr.heap.size 41 #[.string (bs v.l.sgs[k].name), .int .i64 v.l.sgs[k].pos.el, .int .i64 v.l.sgs[k].pos.sd, .int .i64 v.l.sgs[k].ovl] := Blk.new _ _ _ _ rfl
                  have HF := Lib.hid (⟨hA2, lb2, hka, zka⟩ : GSF w v _ v.l.sgs[k] _ _ _ _)
                  have hss := GS.mk HF.out hla hblk
                  obtain ⟨on, ⟨_, oa⟩, ob⟩ := ho
                  have HFA : Hid (∀ (W : World) (g : Nat), GS w v u5 lns (some ⟨b2, o2, none⟩) wr.heap.size v.l.sgs[k] b2 o2 ka v.l.els[ka].name W → Blk W g 3 #[.int .i64 v.l.sgs[k].pos.sd, .int .i64 v.l.sgs[k].ovl] → Calls Tryz.prog 13 #[.slice (some ⟨g, 0, none⟩) 2 2] W (AllPost W [Lib.itoa v.l.sgs[k].pos.sd, Lib.itoa v.l.sgs[k].ovl])) := Lib.hid fun W g h hB => formatAll_any [v.l.sgs[k].pos.sd, v.l.sgs[k].ovl] (some ⟨g, 0, none⟩) 2 W (E.toEnvR.toEnv.now h.all.1.bel) (rds_ints hB (fun n hn => by simp only [List.mem_cons, List.not_mem_nil, or_false] at hn; rcases hn with rfl | rfl <;> assumption)) (by simp)
                  have HWD : Hid (sgnW v.l v.l.sgs[k] = [signalW, v.l.sgs[k].name, v.l.els[ka].name] ++ [Lib.itoa v.l.sgs[k].pos.sd, Lib.itoa v.l.sgs[k].ovl]) := Lib.hid (by unfold sgnW; rw [nmAt_in hka lka]; rfl)
                  have HWL : Hid (∀ x ∈ [signalW, v.l.sgs[k].name, v.l.els[ka].name], x.length ≤ maxLen) := Lib.hid (by
                    intro x hx
                    simp only [List.mem_cons, List.not_mem_nil, or_false] at hx
                    rcases hx with rfl | rfl | rfl
                    · exact Nat.le_trans (show signalW.length ≤ 6 by decide) (by unfold maxLen; omega)
                    · exact on
                    · exact honka.1)
                  rw [hA, hA2]
                  clear hlns hA hA2 lb2 zka hka
                  generalize v.l.sgs[k] = q at *
                  have hleka := honka.1
                  generalize hnnka : v.l.els[ka].name = nka at *
                  go_wp2_with fail
                  generalize wr.alloc (.cells #[.string (bs q.name), .int .i64 q.pos.el, .int .i64 q.pos.sd, .int .i64 q.ovl] 41) = W0 at *
                  obtain ⟨gq, hgq⟩ : ∃ g, g = wr.heap.size := ⟨_, rfl⟩
                  rw [← hgq] at hss HFA ⊢
                  clear hblk hla hl hgq lb y0 y1 y2 y3
                  go_region_held3 (fun w' => w'.cell? ⟨gq, 0, none⟩ = some (.string (bs q.name)) ∧ w'.cell? ⟨gq, 2, none⟩ = some (.int .i64 q.pos.sd) ∧ w'.cell? ⟨gq, 3, none⟩ = some (.int .i64 q.ovl) ∧ w'.cell? ⟨gq, 1, none⟩ = some (.int .i64 (ka : Int)) ∧ w'.cell? ⟨w.heap.size, 2, none⟩ = some (.slice (some ⟨b2, o2, none⟩) v.l.els.length v.c2) ∧ w'.cell? ⟨b2, o2 + ka * 7, none⟩ = some (.string (bs nka)) ∧ (Ln w w' v u5 lns ∧ Blk w' gq 41 #[.string (bs q.name), .int .i64 q.pos.el, .int .i64 q.pos.sd, .int .i64 q.ovl])) (first | assumption | (refine GS.now HF.out ‹_› ?_; first | assumption | exact (Below.refl _ _).drew | exact (Below.refl _ _).alloc (Nat.le_refl _) _)) (first
                    | (go_at_call 13; (refine (HFA.out _ _ (by assumption) (by (repeat' (first | (with_reducible assumption) | (with_reducible refine Blk.new _ _ _ _ (by first | (with_reducible rfl) | (simp; done) | omega)) | (with_reducible refine Blk.alloc ?_ _) | (with_reducible refine Blk.drew ?_) | (with_reducible refine Blk.now ?_ (by assumption)))))).mono ?_); rintro e wq ⟨A6, c6, rfl, hl6, hr6, hq⟩)
                    | (refine step_at_appendT 22 (by rfl) ?_; refine step_append_wordsN rfl _ _ 22 rfl 9 i0 _ Tryz.underlying22 hi0 hz0 hz1 hz2 rfl _ [signalW, q.name, nka] 3 rfl rfl _ (by first | (with_reducible exact Blk.new _ _ _ _ (by first | rfl | (simp; done))) | (with_reducible exact (Blk.new _ _ _ _ (by first | rfl | (simp; done))).now hq) | (with_reducible exact ((Blk.new _ _ _ _ (by first | rfl | (simp; done))).alloc _).now hq) | (with_reducible exact (((Blk.new _ _ _ _ (by first | rfl | (simp; done))).alloc _).drew).now hq) | (with_reducible exact ((Blk.new _ _ _ _ (by first | rfl | (simp; done))).drew).now hq)) (by rfl) _ 2 _ [Lib.itoa q.pos.sd, Lib.itoa q.ovl] rfl (by simp) (by simp) rfl (by first | exact hr6 | exact hr6.now ((Below.refl _ _).alloc (Nat.le_refl _) _)) HWL.out 5 rfl ?_; intro A7 c7 wq hown7 hq; have hlw := Lw.mk (GS.all (by assumption : GS w v u5 lns (some ⟨b2, o2, none⟩) gq q b2 o2 ka nka _)).1 hq hown7)
                    | (refine step_at_appendT 47 (by rfl) ?_; refine step_push_row rfl _ _ rfl hr j0 hj0 hy0 hy1 hy2 _ lns rfl _ _ _ _ (by exact hlw) _ rfl rfl (by omega) ?_; intro v9 w9 hl9 ho9 hf9; have hs9 := GS.push HF.out (by assumption : GS w v u5 lns (some ⟨b2, o2, none⟩) gq q b2 o2 ka nka _) ho9 hf9)
                    | fail)
                  all_goals (
                    go_wp2_with fail
                    go_roundw
                    case rel => exact ⟨k + 1, by omega, by go_num, by rw [HT.out, ← List.append_assoc, HLNS.out, HWD.out]; exact hl9⟩
                    case measure => simp [intOf]; omega)
                · have HE : Hid (((([layoutW, v.l.name] :: v.l.secs.map secW) ++ v.l.els.map (eltW v.l)) ++ v.l.jts.map (jntW v.l)) ++ (v.l.sgs.take k).map (sgnW v.l) = ((([layoutW, v.l.name] :: v.l.secs.map secW) ++ v.l.els.map (eltW v.l)) ++ v.l.jts.map (jntW v.l)) ++ v.l.sgs.map (sgnW v.l)) := Lib.hid (by rw [List.take_of_length_le (by omega)])
                  rw [HE.out] at hl
                  have x5 := hl.1.x5
                  clear hk HE
                  go_wp2_with fail
                  clear x5
                  go_loopw [5, 150] (fun s n wr => ∃ k : Nat, k ≤ v.l.bls.length ∧ n = .int .i64 k ∧ Ln w wr v s ((((([layoutW, v.l.name] :: v.l.secs.map secW) ++ v.l.els.map (eltW v.l)) ++ v.l.jts.map (jntW v.l)) ++ v.l.sgs.map (sgnW v.l)) ++ (v.l.bls.take k).map (blsW v.l))) (fun _ n _ => v.l.bls.length - (intOf n).toNat)
                  case atStart => exact ⟨0, Nat.zero_le _, rfl, by simpa using hl⟩
                  case round =>
                    obtain ⟨k, hk, rfl, hl⟩ := hrel
                    by_cases hlt : k < v.l.bls.length
                    · have hki : (k : Int) < (v.l.bls.length : Int) := by omega
                      obtain ⟨b, off, hA, lb, ho, y0, y1, y2⟩ := hl.1.rd.r5.elB hlt
                      obtain ⟨_, ⟨h0ka, h1ka⟩, _⟩ := blsB_iff (HBL.out v.l.bls[k] (List.getElem_mem hlt))
                      obtain ⟨ka, hka⟩ := Int.eq_ofNat_of_zero_le (h0ka)
                      have lka : ka < v.l.els.length := by omega
                      have ika : (ka : Int) < (v.l.els.length : Int) := by omega
                      obtain ⟨b2, o2, hA2, lb2, honka, zka, _⟩ := hr.r2.elE lka
                      have HT := Lib.hid (map_take (blsW v.l) hlt)
                      have hlen : ((((([layoutW, v.l.name] :: v.l.secs.map secW) ++ v.l.els.map (eltW v.l)) ++ v.l.jts.map (jntW v.l)) ++ v.l.sgs.map (sgnW v.l)) ++ (v.l.bls.take k).map (blsW v.l)).length ≤ 2000 := by simp; omega
                      obtain ⟨lns, hlns⟩ : ∃ x, (((([layoutW, v.l.name] :: v.l.secs.map secW) ++ v.l.els.map (eltW v.l)) ++ v.l.jts.map (jntW v.l)) ++ v.l.sgs.map (sgnW v.l)) ++ (v.l.bls.take k).map (blsW v.l) = x := ⟨_, rfl⟩
                      rw [hlns] at hl hlen
                      have HLNS := Lib.hid hlns
                      have hla := hl.alloc (.cells #[.int .i64 v.l.bls[k].id, .int .i64 v.l.bls[k].el, .int .i64 v.l.bls[k].off] 51)
                      have hblk : Blk (wr.alloc (.cells #[.int .i64 v.l.bls[k].id, .int .i64 v.l.bls[k].el, .int .i64 v.l.bls[k].off] 51)) wr.heap.size 51 #[.int .i64 v.l.bls[k].id, .int .i64 v.l.bls[k].el, .int .i64 v.l.bls[k].off] := Blk.new _ _ _ _ rfl
                      have HF := Lib.hid (⟨hA2, lb2, hka, zka⟩ : BSF w v _ v.l.bls[k] _ _ _ _)
                      have hss := BS.mk HF.out hla hblk
                      have HFM : Hid (∀ (W : World) (n : Int), BS w v u5 lns (some ⟨b2, o2, none⟩) wr.heap.size v.l.bls[k] b2 o2 ka v.l.els[ka].name W → I64n n → Calls Tryz.prog 14 #[.int .i64 n] W fun e w' => e = .returned (.string (bs (Lib.itoa n))) ∧ Below W.heap.size W w') := Lib.hid fun W n h hn => format_any n W (E.toEnvR.toEnv.now h.all.1.bel) hn.1 hn.2
                      have HWD : Hid (blsW v.l v.l.bls[k] = [baliseW, Lib.itoa v.l.bls[k].id, v.l.els[ka].name, Lib.itoa v.l.bls[k].off]) := Lib.hid (by unfold blsW; rw [nmAt_in hka lka])
                      obtain ⟨oa, _, ob⟩ := ho
                      have ila := itoaP_len v.l.bls[k].id oa
                      have ilb := itoaP_len v.l.bls[k].off ob
                      have HWL : Hid (∀ x ∈ [baliseW, Lib.itoa v.l.bls[k].id, v.l.els[ka].name, Lib.itoa v.l.bls[k].off], x.length ≤ maxLen) := Lib.hid (by
                        intro x hx
                        simp only [List.mem_cons, List.not_mem_nil, or_false] at hx
                        rcases hx with rfl | rfl | rfl | rfl
                        · exact Nat.le_trans (show baliseW.length ≤ 6 by decide) (by unfold maxLen; omega)
                        · unfold maxLen; omega
                        · exact honka.1
                        · unfold maxLen; omega)
                      rw [hA, hA2]
                      clear hlns hA hA2 lb2 zka hka
                      generalize v.l.bls[k] = q at *
                      have hleka := honka.1
                      generalize hnnka : v.l.els[ka].name = nka at *
                      go_wp2_with fail
                      generalize wr.alloc (.cells #[.int .i64 q.id, .int .i64 q.el, .int .i64 q.off] 51) = W0 at *
                      obtain ⟨gq, hgq⟩ : ∃ g, g = wr.heap.size := ⟨_, rfl⟩
                      rw [← hgq] at hss HFM ⊢
                      clear hblk hla hl hgq lb y0 y1 y2
                      go_region_held3 (fun w' => w'.cell? ⟨gq, 0, none⟩ = some (.int .i64 q.id) ∧ w'.cell? ⟨gq, 2, none⟩ = some (.int .i64 q.off) ∧ w'.cell? ⟨gq, 1, none⟩ = some (.int .i64 (ka : Int)) ∧ w'.cell? ⟨w.heap.size, 2, none⟩ = some (.slice (some ⟨b2, o2, none⟩) v.l.els.length v.c2) ∧ w'.cell? ⟨b2, o2 + ka * 7, none⟩ = some (.string (bs nka)) ∧ (Ln w w' v u5 lns ∧ Blk w' gq 51 #[.int .i64 q.id, .int .i64 q.el, .int .i64 q.off])) (first | assumption | (refine BS.now HF.out ‹_› ?_; first | assumption | exact (Below.refl _ _).drew | exact (Below.refl _ _).alloc (Nat.le_refl _) _)) (first
                        | (go_at_call 14; (refine (HFM.out _ _ (by assumption) (by assumption)).mono ?_); rintro e wq ⟨rfl, hq⟩)
                        | (refine step_at_append (by rfl) ?_; refine step_push_line rfl _ _ rfl hr j0 hj0 hy0 hy1 hy2 _ lns rfl _ _ _ (BS.all (by assumption : BS w v u5 lns (some ⟨b2, o2, none⟩) gq q b2 o2 ka nka _)).1 [baliseW, Lib.itoa q.id, nka, Lib.itoa q.off] rfl rfl rfl HWL.out (by simp) _ rfl (by simp) (by omega) ?_; intro v9 w9 hl9 ho9 hf9; have hs9 := BS.push HF.out (by assumption : BS w v u5 lns (some ⟨b2, o2, none⟩) gq q b2 o2 ka nka _) ho9 hf9)
                        | fail)
                      all_goals (
                        go_wp2_with fail
                        go_roundw
                        case rel => exact ⟨k + 1, by omega, by go_num, by rw [HT.out, ← List.append_assoc, HLNS.out, HWD.out]; exact hl9⟩
                        case measure => simp [intOf]; omega)
                    · have HE : Hid ((((([layoutW, v.l.name] :: v.l.secs.map secW) ++ v.l.els.map (eltW v.l)) ++ v.l.jts.map (jntW v.l)) ++ v.l.sgs.map (sgnW v.l)) ++ (v.l.bls.take k).map (blsW v.l) = (((([layoutW, v.l.name] :: v.l.secs.map secW) ++ v.l.els.map (eltW v.l)) ++ v.l.jts.map (jntW v.l)) ++ v.l.sgs.map (sgnW v.l)) ++ v.l.bls.map (blsW v.l)) := Lib.hid (by rw [List.take_of_length_le (by omega)])
                      rw [HE.out] at hl
                      clear hk HE
                      have HLL : Hid ((((([layoutW, v.l.name] :: v.l.secs.map secW) ++ v.l.els.map (eltW v.l)) ++ v.l.jts.map (jntW v.l)) ++ v.l.sgs.map (sgnW v.l)) ++ v.l.bls.map (blsW v.l) = linesL v.l) := Lib.hid (by simp [linesL])
                      rw [HLL.out] at hl
                      have hB := hl.bel
                      have hlen : (linesL v.l).length ≤ 2000 := by rw [lines_len]; omega
                      have hcn := cnt_lines v.l
                      obtain ⟨tx, hj⟩ : ∃ tx, joinF (linesL v.l) = tx := ⟨_, rfl⟩
                      rw [hj] at HP
                      obtain ⟨A9, c9, rfl, ⟨hm9, hc9⟩, hrd9⟩ := hl.2.reads2
                      have HJN := Lib.hid (joinLC (t := tx.1) (x := tx.2) hj A9 c9 wr hrd9 (by omega) (by omega))
                      clear hl hrd9 hj hcn
                      generalize (linesL v.l).length = nl at *
                      go_wp2_with fail
                      refine HJN.out.mono ?_
                      rintro e w9 ⟨rfl, hb9⟩
                      go_wp2_with fail
                      go_ret2
                      exact ⟨by rw [HP.out]; rfl, bel_then hB hB.size hb9⟩
end Go.Proofs.YtopoknocfoiiaaaGreatDoor
