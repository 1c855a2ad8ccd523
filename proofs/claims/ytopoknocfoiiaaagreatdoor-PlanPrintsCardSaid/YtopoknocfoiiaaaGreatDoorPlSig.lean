/- The walk of checkSignals. -/
import Derived.Test.YtopoknocfoiiaaaGreatDoorPlJoin
namespace Go.Proofs.YtopoknocfoiiaaaGreatDoor
set_option linter.unusedVariables false
set_option linter.unusedSimpArgs false
open Go.RowKit
open Go.Maps (Keyed)
attribute [local go_sem] bs_size bs_get bs_append bs_extract bs_toList
attribute [-go_sem] run_equalIn_agg
theorem sgC_no {l : Lay} (h : l.sgs.all (sgnB l) = false) : sgC l = 1 := by unfold sgC; rw [if_pos h]
theorem sgC_dup {l : Lay} (h : l.sgs.all (sgnB l) = true) (hd : ¬ (l.sgs.map Sgn.pos).Nodup) : sgC l = 8 := by unfold sgC; rw [if_neg (by rw [h]; simp), if_pos (decide_eq_false hd)]
theorem sgC_un {l : Lay} (h : l.sgs.all (sgnB l) = true) (hd : (l.sgs.map Sgn.pos).Nodup) (hs : (l.sgs.all fun s => safeB l s.pos) = false) : sgC l = 14 := by unfold sgC; rw [if_neg (by rw [h]; simp), if_neg (by simp [hd]), if_pos hs]
theorem sgC_yes {l : Lay} (h : l.sgs.all (sgnB l) = true) (hd : (l.sgs.map Sgn.pos).Nodup) (hs : (l.sgs.all fun s => safeB l s.pos) = true) : sgC l = 0 := by unfold sgC; rw [if_neg (by rw [h]; simp), if_neg (by simp [hd]), if_neg (by rw [hs]; simp)]
theorem idxA_lt {α : Type} [DecidableEq α] {l : List α} {w : α} {k : Nat} (h : w ∈ l.take k) : idxA l w < k := by
  obtain ⟨i, hi, he⟩ := List.mem_iff_getElem.1 h
  rw [List.length_take] at hi
  rw [List.getElem_take] at he
  have key : ∀ (l : List α) (i : Nat), l[i]? = some w → idxA l w ≤ i := by
    intro l
    induction l with
    | nil => intro i h; simp at h
    | cons x r ih =>
      intro i h
      unfold idxA
      split
      · omega
      · rename_i hx
        cases i with
        | zero => simp at h; exact absurd h hx
        | succ i =>
          have := ih i (by simpa using h)
          split <;> omega
  have := key l i (by rw [List.getElem?_eq_getElem (by omega), he])
  omega
theorem sgnB_no1 {l : Lay} {s : Sgn} (h : exB l s.pos = false) : sgnB l s = false := by unfold sgnB; rw [h]; rfl
theorem sgnB_eq {l : Lay} {s : Sgn} (h : exB l s.pos = true) : sgnB l s = inB s.ovl 0 1000000 := by unfold sgnB; rw [h]; rfl
theorem safe_none {l : Lay} {p : End2} (h : joinedF l.jts p = none) : safeB l p = false := by unfold safeB; rw [h]
theorem safe_some {l : Lay} {p f : End2} (h : joinedF l.jts p = some f) : safeB l p = decide (secAt l f.el ≠ secAt l p.el) := by unfold safeB; rw [h]
/-- What is known of the boxes of a layout, a signal and an end. -/
def SS (w0 : World) (v : LV) (a4 : Option Addr) (gs ge : Nat) (s : Sgn) (e : End2) (W : World) : Prop :=
  W.cell? ⟨w0.heap.size, 0, none⟩ = some (.string (bs v.l.name)) ∧ W.cell? ⟨w0.heap.size, 1, none⟩ = some (.slice v.A1 v.l.secs.length v.c1) ∧ W.cell? ⟨w0.heap.size, 2, none⟩ = some (.slice v.A2 v.l.els.length v.c2) ∧ W.cell? ⟨w0.heap.size, 3, none⟩ = some (.slice v.A3 v.l.jts.length v.c3) ∧ W.cell? ⟨w0.heap.size, 4, none⟩ = some (.slice a4 v.l.sgs.length v.c4) ∧ W.cell? ⟨w0.heap.size, 5, none⟩ = some (.slice v.A5 v.l.bls.length v.c5) ∧ W.cell? ⟨gs, 1, none⟩ = some (.int .i64 s.pos.el) ∧ W.cell? ⟨ge, 0, none⟩ = some (.int .i64 e.el) ∧ (Bx w0 W v ∧ v.A4 = a4 ∧ Blk W gs 41 #[.string (bs s.name), .int .i64 s.pos.el, .int .i64 s.pos.sd, .int .i64 s.ovl] ∧ Blk W ge 37 #[.int .i64 e.el, .int .i64 e.sd])
section
variable {w0 W W' : World} {v : LV} {a4 : Option Addr} {gs ge : Nat} {s : Sgn} {e : End2}
theorem SS.mk (h : Bx w0 W v) (ha : v.A4 = a4) (h1 : Blk W gs 41 #[.string (bs s.name), .int .i64 s.pos.el, .int .i64 s.pos.sd, .int .i64 s.ovl]) (h2 : Blk W ge 37 #[.int .i64 e.el, .int .i64 e.sd]) : SS w0 v a4 gs ge s e W :=
  ⟨h.x0, h.x1, h.x2, h.x3, ha ▸ h.x4, h.x5, h1.cell 1, h2.cell 0, h, ha, h1, h2⟩
theorem SS.all (h : SS w0 v a4 gs ge s e W) : Bx w0 W v ∧ v.A4 = a4 ∧ Blk W gs 41 #[.string (bs s.name), .int .i64 s.pos.el, .int .i64 s.pos.sd, .int .i64 s.ovl] ∧ Blk W ge 37 #[.int .i64 e.el, .int .i64 e.sd] := h.2.2.2.2.2.2.2.2
theorem SS.now (h : SS w0 v a4 gs ge s e W) (hb : Below W.heap.size W W') : SS w0 v a4 gs ge s e W' :=
  SS.mk (h.all.1.now hb) h.all.2.1 (h.all.2.2.1.now hb) (h.all.2.2.2.now hb)
theorem ss_drew (h : SS w0 v a4 gs ge s e W) : SS w0 v a4 gs ge s e W.drew := h.now (Below.refl _ _).drew
end
set_option maxRecDepth 100000 in
set_option maxHeartbeats 16000000 in
theorem checkSignals_any (v : LV) (w : World) (E : EnvS w) (hr : LvR w v) (hm4 : v.l.sgs.length ≤ 100000) (B n0 : Nat) (he : EndsW w B n0 (joinedF v.l.jts)) : Calls Tryz.prog 30 #[lvA v, .map (some B)] w fun e w' => e = .returned (.int .i64 (sgC v.l)) ∧ Below w.heap.size w w' := by
  have hbx := Bx.new hr
  have hsa : ∀ s ∈ v.l.sgs, sgnO s := fun s hs => by
    obtain ⟨i, hi⟩ := List.getElem?_of_mem hs
    obtain ⟨hil, rfl⟩ := List.getElem?_eq_some_iff.1 hi
    obtain ⟨_, _, _, _, ho, _⟩ := hr.r4.elG hil
    exact ho
  have HSA := Lib.hid hsa
  clear hsa
  unfold lvA
  go_enter Tryz.func30, Tryz.ntmps30
  go_wp2_with fail
  go_loopw [16] (fun n wr => ∃ k : Nat, k ≤ v.l.sgs.length ∧ n = .int .i64 k ∧ Bx w wr v ∧ Hid ((v.l.sgs.take k).all (sgnB v.l) = true)) (fun n _ => v.l.sgs.length - (intOf n).toNat)
  case atStart => exact ⟨0, Nat.zero_le _, rfl, hbx, Lib.hid (by simp)⟩
  case round =>
    obtain ⟨k, hk, rfl, hb, HK⟩ := hrel
    clear hbx
    by_cases hlt : k < v.l.sgs.length
    · have hki : (k : Int) < (v.l.sgs.length : Int) := by omega
      obtain ⟨b, off, hA, lb, ho, y0, y1, y2, y3⟩ := hb.rd.r4.elG hlt
      have hba := hb.alloc (.cells #[.string (bs v.l.sgs[k].name), .int .i64 v.l.sgs[k].pos.el, .int .i64 v.l.sgs[k].pos.sd, .int .i64 v.l.sgs[k].ovl] 41)
      have hsb : Blk (wr.alloc (.cells #[.string (bs v.l.sgs[k].name), .int .i64 v.l.sgs[k].pos.el, .int .i64 v.l.sgs[k].pos.sd, .int .i64 v.l.sgs[k].ovl] 41)) wr.heap.size 41 #[.string (bs v.l.sgs[k].name), .int .i64 v.l.sgs[k].pos.el, .int .i64 v.l.sgs[k].pos.sd, .int .i64 v.l.sgs[k].ovl] := Blk.new _ _ _ _ rfl
      have x0 := hba.x0
      have x1 := hba.x1
      have x2 := hba.x2
      have x3 := hba.x3
      have x4 := hba.x4
      have x5 := hba.x5
      have HNO := Lib.hid fun h : sgnB v.l v.l.sgs[k] = false => sgC_no (all_no (p := sgnB v.l) hlt h)
      have HYE := Lib.hid fun h : sgnB v.l v.l.sgs[k] = true => all_take (p := sgnB v.l) hlt HK.out h
      have E1 := E.now hba.bel
      have HE := Lib.hid fun W E h => exists_any v v.l.sgs[k].pos W E h
      unfold lvA at HE
      rw [hA] at x4 HE ⊢
      cases ca : exB v.l v.l.sgs[k].pos with
      | false =>
        have HX := Lib.hid (HNO.out (sgnB_no1 ca))
        rw [ca] at HE
        clear hA ho HK HNO HYE ca
        generalize v.l.sgs[k] = q at *
        go_wp2_with fail
        refine (HE.out _ E1 hba.rd).mono ?_
        rintro e w5 ⟨rfl, hb5⟩
        have hB5 := (hba.now hb5).bel
        clear x0 x1 x2 x3 x4 x5 hba hsb
        go_wp2_with fail
        go_ret
        exact ⟨ret_iL HX.out.symm, hB5⟩
      | true =>
        have HEQ := Lib.hid (sgnB_eq ca)
        rw [ca] at HE
        cases cb : inB v.l.sgs[k].ovl 0 1000000 with
        | false =>
          have HX := Lib.hid (HNO.out (by rw [HEQ.out, cb]))
          have HW := Lib.hid fun W => withinC cb W
          clear hA ho HK HNO HYE HEQ ca cb
          generalize v.l.sgs[k] = q at *
          go_wp2_with fail
          refine (HE.out _ E1 hba.rd).mono ?_
          rintro e w5 ⟨rfl, hb5⟩
          have hB5 := (hba.now hb5).bel
          have hs5 := hsb.now hb5
          have z3 : w5.cell? ⟨wr.heap.size, 3, none⟩ = some (.int .i64 q.ovl) := hs5.cell 3
          clear x0 x1 x2 x3 x4 x5 hba hsb
          go_wp2_with fail
          refine (HW.out _).mono ?_
          rintro e w6 ⟨rfl, rfl⟩
          go_wp2_with fail
          go_ret
          exact ⟨ret_iL HX.out.symm, hB5⟩
        | true =>
          have HX := Lib.hid (HYE.out (by rw [HEQ.out, cb]))
          have HW := Lib.hid fun W => withinC cb W
          clear hA ho HK HNO HYE HEQ ca cb
          generalize v.l.sgs[k] = q at *
          go_wp2_with fail
          refine (HE.out _ E1 hba.rd).mono ?_
          rintro e w5 ⟨rfl, hb5⟩
          have hb5x := hba.now hb5
          have hs5 := hsb.now hb5
          have z3 : w5.cell? ⟨wr.heap.size, 3, none⟩ = some (.int .i64 q.ovl) := hs5.cell 3
          clear x0 x1 x2 x3 x4 x5 hba hsb
          go_wp2_with fail
          refine (HW.out _).mono ?_
          rintro e w6 ⟨rfl, rfl⟩
          go_wp2_with fail
          go_roundw
          case rel => exact ⟨k + 1, by omega, by go_num, hb5x, HX⟩
          case measure => simp [intOf]; omega
    · have HAL := Lib.hid (all_end hlt HK.out)
      have x4 := hb.x4
      clear HK
      go_wp2_with fail
      clear x4
      go_loopw [35] (fun n wr => ∃ k : Nat, k ≤ v.l.sgs.length ∧ n = .int .i64 k ∧ Bx w wr v ∧ Hid (((v.l.sgs.map Sgn.pos).take k).Nodup)) (fun n _ => v.l.sgs.length - (intOf n).toNat)
      case atStart => exact ⟨0, Nat.zero_le _, rfl, hb, Lib.hid (by simp)⟩
      case round =>
        obtain ⟨k, hk, rfl, hb, HK⟩ := hrel
        by_cases hlt : k < v.l.sgs.length
        · have hki : (k : Int) < (v.l.sgs.length : Int) := by omega
          obtain ⟨b, off, hA, lb, ho, y0, y1, y2, y3⟩ := hb.rd.r4.elG hlt
          have hlm : k < (v.l.sgs.map Sgn.pos).length := by simpa using hlt
          have hmk : (v.l.sgs.map Sgn.pos)[k] = v.l.sgs[k].pos := by simp
          have hba := hb.alloc (.cells #[.string (bs v.l.sgs[k].name), .int .i64 v.l.sgs[k].pos.el, .int .i64 v.l.sgs[k].pos.sd, .int .i64 v.l.sgs[k].ovl] 41)
          have x0 := hba.x0
          have x1 := hba.x1
          have x2 := hba.x2
          have x3 := hba.x3
          have x4 := hba.x4
          have x5 := hba.x5
          have HG := Lib.hid fun W h => signal_any v v.l.sgs[k].pos W h
          unfold lvA at HG
          rw [hA] at x4 HG ⊢
          cases cd : decide (v.l.sgs[k].pos ∈ (v.l.sgs.map Sgn.pos).take k) with
          | true =>
            have hm := of_decide_eq_true cd
            have HX := Lib.hid (sgC_dup HAL.out (not_nodup hlm (by rw [hmk]; exact hm)))
            have hne := idxA_lt hm
            have hnb : (idxA (v.l.sgs.map Sgn.pos) v.l.sgs[k].pos != (k : Int)) = true := by rw [bne_iff_ne]; omega
            clear hA ho hmk HK cd hm hne
            generalize v.l.sgs[k] = q at *
            generalize idxA (v.l.sgs.map Sgn.pos) q.pos = ix at *
            go_wp2_with fail
            refine (HG.out _ hba.rd).mono ?_
            rintro e w5 ⟨rfl, hb5⟩
            have hB5 := (hba.now hb5).bel
            clear x0 x1 x2 x3 x4 x5 hba
            go_wp2_with fail
            go_ret
            exact ⟨ret_iL HX.out.symm, hB5⟩
          | false =>
            have hm := of_decide_eq_false cd
            have HX := Lib.hid (nodup_take hlm HK.out (by rw [hmk]; exact hm))
            have hix := idxA_at (l := v.l.sgs.map Sgn.pos) (w := v.l.sgs[k].pos) (k := k) (by rw [List.getElem?_eq_getElem hlm, hmk]) hm
            rw [hix] at HG
            clear hA ho hmk HK cd hm hix
            generalize v.l.sgs[k] = q at *
            go_wp2_with fail
            refine (HG.out _ hba.rd).mono ?_
            rintro e w5 ⟨rfl, hb5⟩
            have hb5x := hba.now hb5
            clear x0 x1 x2 x3 x4 x5 hba
            go_wp2_with fail
            go_roundw
            case rel => exact ⟨k + 1, by omega, by go_num, hb5x, HX⟩
            case measure => simp [intOf]; omega
        · have hnd := HK.out
          rw [List.take_of_length_le (by simp; omega)] at hnd
          have HND := Lib.hid hnd
          have x4 := hb.x4
          clear hnd HK
          go_wp2_with fail
          clear x4
          go_loopw [50] (fun n wr => ∃ k : Nat, k ≤ v.l.sgs.length ∧ n = .int .i64 k ∧ Bx w wr v ∧ EndsW wr B n0 (joinedF v.l.jts) ∧ Hid (((v.l.sgs.take k).all fun s => safeB v.l s.pos) = true)) (fun n _ => v.l.sgs.length - (intOf n).toNat)
          case atStart => exact ⟨0, Nat.zero_le _, rfl, hb, he.now hb.bel, Lib.hid (by simp)⟩
          case round =>
            obtain ⟨k, hk, rfl, hb, hst, HK⟩ := hrel
            by_cases hlt : k < v.l.sgs.length
            · have hki : (k : Int) < (v.l.sgs.length : Int) := by omega
              obtain ⟨b, off, hA, lb, ho, y0, y1, y2, y3⟩ := hb.rd.r4.elG hlt
              have hba := hb.alloc (.cells #[.string (bs v.l.sgs[k].name), .int .i64 v.l.sgs[k].pos.el, .int .i64 v.l.sgs[k].pos.sd, .int .i64 v.l.sgs[k].ovl] 41)
              have hsb : Blk (wr.alloc (.cells #[.string (bs v.l.sgs[k].name), .int .i64 v.l.sgs[k].pos.el, .int .i64 v.l.sgs[k].pos.sd, .int .i64 v.l.sgs[k].ovl] 41)) wr.heap.size 41 #[.string (bs v.l.sgs[k].name), .int .i64 v.l.sgs[k].pos.el, .int .i64 v.l.sgs[k].pos.sd, .int .i64 v.l.sgs[k].ovl] := Blk.new _ _ _ _ rfl
              have hsta := hst.alloc (.cells #[.string (bs v.l.sgs[k].name), .int .i64 v.l.sgs[k].pos.el, .int .i64 v.l.sgs[k].pos.sd, .int .i64 v.l.sgs[k].ovl] 41)
              obtain ⟨g, hg⟩ : ∃ g, (joinedF v.l.jts v.l.sgs[k].pos).getD ⟨0, 0⟩ = g := ⟨_, rfl⟩
              have HG := Lib.hid hg
              have hbb := hba.alloc (.cells #[.int .i64 g.el, .int .i64 g.sd] 37)
              have hsbb := hsb.alloc (.cells #[.int .i64 g.el, .int .i64 g.sd] 37)
              have hstb := hsta.alloc (.cells #[.int .i64 g.el, .int .i64 g.sd] 37)
              have heb : Blk ((wr.alloc (.cells #[.string (bs v.l.sgs[k].name), .int .i64 v.l.sgs[k].pos.el, .int .i64 v.l.sgs[k].pos.sd, .int .i64 v.l.sgs[k].ovl] 41)).alloc (.cells #[.int .i64 g.el, .int .i64 g.sd] 37)) (wr.heap.size + 1) 37 #[.int .i64 g.el, .int .i64 g.sd] := Blk.new _ _ _ _ (by simp)
              have HNO := Lib.hid fun h : safeB v.l v.l.sgs[k].pos = false => sgC_un HAL.out HND.out (all_no (p := fun s : Sgn => safeB v.l s.pos) hlt h)
              have HYE := Lib.hid fun h : safeB v.l v.l.sgs[k].pos = true => all_take (p := fun s : Sgn => safeB v.l s.pos) hlt HK.out h
              have hop := ho.2.1
              cases cj : joinedF v.l.jts v.l.sgs[k].pos with
              | none =>
                have HX := Lib.hid (HNO.out (safe_none cj))
                have HCJ : Hid ((joinedF v.l.jts v.l.sgs[k].pos).isSome = false) := Lib.hid (by rw [cj]; rfl)
                rw [hA]
                clear hA ho HK HNO HYE cj hg
                generalize v.l.sgs[k] = q at *
                go_wp2_with (at_lookup; go_loud (refine wpList_look_endsB _ rfl _ _ 62 rfl Tryz.underlying62 B n0 (joinedF v.l.jts) rfl hsta q.pos hop rfl g HG.out false HCJ.out ?_))
                (refine wp_region_quiet_lit (by kernel_rfl) (by kernel_rfl) ?_; (repeat (any_goals (first | go_big_quiet_step (fail) | quiet_step (fail) | (refine wpQuiet_step (fun K hK => ?_); go_simp; split <;> (refine hK _ ?_; clear hK K))))); all_goals (refine wpQuiet_nil ?_; intro _ hw'; obtain ⟨nq, hw''⟩ := hw'; subst hw''))
                all_goals (go_wp2_with fail)
                all_goals (go_ret; exact ⟨ret_iL HX.out.symm, Below.drewN hbb.bel _⟩)
              | some f =>
                have hgf : g = f := by rw [← hg, cj]; rfl
                have HSF := Lib.hid (safe_some cj)
                have HCJ : Hid ((joinedF v.l.jts v.l.sgs[k].pos).isSome = true) := Lib.hid (by rw [cj]; rfl)
                subst hgf
                clear cj hg
                have HA4 := Lib.hid hA
                have hss := SS.mk hbb hA hsbb heb
                rw [hA]
                cases cs : decide (secAt v.l g.el ≠ secAt v.l v.l.sgs[k].pos.el) with
                | false =>
                  have HX := Lib.hid (HNO.out (by rw [HSF.out, cs]))
                  have heq : (secAt v.l g.el == secAt v.l v.l.sgs[k].pos.el) = true := by simpa using cs
                  clear hA ho HK HNO HYE HSF cs
                  generalize v.l.sgs[k] = q at *
                  go_wp2_with (at_lookup; go_loud (refine wpList_look_endsB _ rfl _ _ 62 rfl Tryz.underlying62 B n0 (joinedF v.l.jts) rfl hsta q.pos hop rfl g HG.out true HCJ.out ?_))
                  obtain ⟨W, hW⟩ : ∃ W, (wr.alloc (.cells #[.string (bs q.name), .int .i64 q.pos.el, .int .i64 q.pos.sd, .int .i64 q.ovl] 41)).alloc (.cells #[.int .i64 g.el, .int .i64 g.sd] 37) = W := ⟨_, rfl⟩
                  rw [hW] at hss hbb ⊢
                  clear hW hba hsb hsta hsbb hstb heb y0 y1 y2 y3 hb
                  obtain ⟨gs, hgs⟩ : ∃ gs, gs = wr.heap.size := ⟨_, rfl⟩
                  rw [← hgs] at hss ⊢
                  have HSEC := Lib.hid fun (i : Int) (W : World) (h : SS w v (some ⟨b, off, none⟩) gs (gs + 1) q g W) => section_any v i W h.all.1.rd
                  unfold lvA at HSEC
                  rw [HA4.out] at HSEC
                  clear hgs
                  go_region_held3 (fun w' => w'.cell? ⟨w.heap.size, 0, none⟩ = some (.string (bs v.l.name)) ∧ w'.cell? ⟨w.heap.size, 1, none⟩ = some (.slice v.A1 v.l.secs.length v.c1) ∧ w'.cell? ⟨w.heap.size, 2, none⟩ = some (.slice v.A2 v.l.els.length v.c2) ∧ w'.cell? ⟨w.heap.size, 3, none⟩ = some (.slice v.A3 v.l.jts.length v.c3) ∧ w'.cell? ⟨w.heap.size, 4, none⟩ = some (.slice (some ⟨b, off, none⟩) v.l.sgs.length v.c4) ∧ w'.cell? ⟨w.heap.size, 5, none⟩ = some (.slice v.A5 v.l.bls.length v.c5) ∧ w'.cell? ⟨gs, 1, none⟩ = some (.int .i64 q.pos.el) ∧ w'.cell? ⟨gs + 1, 0, none⟩ = some (.int .i64 g.el) ∧ (Bx w w' v ∧ v.A4 = some ⟨b, off, none⟩ ∧ Blk w' gs 41 #[.string (bs q.name), .int .i64 q.pos.el, .int .i64 q.pos.sd, .int .i64 q.ovl] ∧ Blk w' (gs + 1) 37 #[.int .i64 g.el, .int .i64 g.sd])) (first | assumption | exact ss_drew ‹_› | (refine SS.now ‹_› ?_; assumption)) (first | (go_at_call 58; refine (HSEC.out _ _ (by assumption)).mono ?_; rintro e wq ⟨rfl, hq⟩))
                  all_goals (go_wp2_with fail)
                  all_goals (go_ret; exact ⟨ret_iL HX.out.symm, (SS.all (by assumption : SS w v (some ⟨b, off, none⟩) gs (gs + 1) q g _)).1.bel⟩)
                | true =>
                  have HX := Lib.hid (HYE.out (by rw [HSF.out, cs]))
                  have heq : (secAt v.l g.el == secAt v.l v.l.sgs[k].pos.el) = false := by simpa using cs
                  clear hA ho HK HNO HYE HSF cs
                  generalize v.l.sgs[k] = q at *
                  go_wp2_with (at_lookup; go_loud (refine wpList_look_endsB _ rfl _ _ 62 rfl Tryz.underlying62 B n0 (joinedF v.l.jts) rfl hsta q.pos hop rfl g HG.out true HCJ.out ?_))
                  obtain ⟨W, hW⟩ : ∃ W, (wr.alloc (.cells #[.string (bs q.name), .int .i64 q.pos.el, .int .i64 q.pos.sd, .int .i64 q.ovl] 41)).alloc (.cells #[.int .i64 g.el, .int .i64 g.sd] 37) = W := ⟨_, rfl⟩
                  rw [hW] at hss hbb ⊢
                  clear hW hba hsb hsta hsbb hstb heb y0 y1 y2 y3 hb
                  obtain ⟨gs, hgs⟩ : ∃ gs, gs = wr.heap.size := ⟨_, rfl⟩
                  rw [← hgs] at hss ⊢
                  have HSEC := Lib.hid fun (i : Int) (W : World) (h : SS w v (some ⟨b, off, none⟩) gs (gs + 1) q g W) => section_any v i W h.all.1.rd
                  unfold lvA at HSEC
                  rw [HA4.out] at HSEC
                  clear hgs
                  go_region_held3 (fun w' => w'.cell? ⟨w.heap.size, 0, none⟩ = some (.string (bs v.l.name)) ∧ w'.cell? ⟨w.heap.size, 1, none⟩ = some (.slice v.A1 v.l.secs.length v.c1) ∧ w'.cell? ⟨w.heap.size, 2, none⟩ = some (.slice v.A2 v.l.els.length v.c2) ∧ w'.cell? ⟨w.heap.size, 3, none⟩ = some (.slice v.A3 v.l.jts.length v.c3) ∧ w'.cell? ⟨w.heap.size, 4, none⟩ = some (.slice (some ⟨b, off, none⟩) v.l.sgs.length v.c4) ∧ w'.cell? ⟨w.heap.size, 5, none⟩ = some (.slice v.A5 v.l.bls.length v.c5) ∧ w'.cell? ⟨gs, 1, none⟩ = some (.int .i64 q.pos.el) ∧ w'.cell? ⟨gs + 1, 0, none⟩ = some (.int .i64 g.el) ∧ (Bx w w' v ∧ v.A4 = some ⟨b, off, none⟩ ∧ Blk w' gs 41 #[.string (bs q.name), .int .i64 q.pos.el, .int .i64 q.pos.sd, .int .i64 q.ovl] ∧ Blk w' (gs + 1) 37 #[.int .i64 g.el, .int .i64 g.sd])) (first | assumption | exact ss_drew ‹_› | (refine SS.now ‹_› ?_; assumption)) (first | (go_at_call 58; refine (HSEC.out _ _ (by assumption)).mono ?_; rintro e wq ⟨rfl, hq⟩))
                  all_goals (go_wp2_with fail)
                  all_goals go_roundw
                  case rel => exact ⟨k + 1, by omega, by go_num, (SS.all (by assumption : SS w v (some ⟨b, off, none⟩) gs (gs + 1) q g _)).1, he.now (SS.all (by assumption : SS w v (some ⟨b, off, none⟩) gs (gs + 1) q g _)).1.bel, HX⟩
                  case measure => simp [intOf]; omega
            · have HX := Lib.hid (sgC_yes HAL.out HND.out (all_end hlt HK.out))
              go_wp2_with fail
              go_ret
              exact ⟨ret_iL HX.out.symm, hb.bel⟩
end Go.Proofs.YtopoknocfoiiaaaGreatDoor
