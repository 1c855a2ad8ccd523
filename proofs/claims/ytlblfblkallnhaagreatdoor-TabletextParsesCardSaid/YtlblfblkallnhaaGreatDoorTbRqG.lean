/- The reference's Parse of tables. -/
import Derived.Test.YtlblfblkallnhaaGreatDoorTbRqF
import Derived.Test.YtlblfblkallnhaaGreatDoorTbRqP
import Derived.Test.YtlblfblkallnhaaGreatDoorTbRqR
import Derived.Test.YtlblfblkallnhaaGreatDoorTbRkD
namespace Go.Proofs.YtlblfblkallnhaaGreatDoor
set_option linter.unusedVariables false
set_option linter.unusedSimpArgs false
open Go.RowKit
attribute [local go_sem] bs_size bs_get bs_append bs_extract bs_toList
attribute [-go_sem] run_equalIn_agg
theorem rlnC {s : List UInt8} {r : Lns × Nat × Int} (h : linesF s = r) (w : World) (hs : s.length ≤ maxLen) : Calls Tryz.prog 27 #[.string (bs s)] w (LinesPost w r) := h ▸ rlines_any s w hs
theorem rtchkC {c : Int} (v : TabV) (h : chkT v.t = c) (w : World) (hr : TvR w v) (hsm : SecsOk v.t) : Calls Tryz.prog 23 #[tvA v] w fun e w' => e = .returned (.int .i64 c) ∧ Below w.heap.size w w' := h ▸ rcheckT_any v w hr hsm
/-- One line, the rank known. -/
theorem rExt_any (v : TabV) (base : Nat) (N : Nat → Prop) (w : World) (hX : Xt w base N v) (hN : ∀ b, N b → ∃ cs, Blk w b 25 cs) (w0 : List UInt8) (p q : Int) (hq : rankF w0 = q) (hk : RkT v.t p) (hs : SmT v.t 40000) (hf : follB p q = true) (a : List (List UInt8)) (A : Option Addr) (cap : Nat) (hrb : RdS cS w (fun k => k < base) A (w0 :: a)) (hl : a.length ≤ 30000) (hw : ∀ x ∈ w0 :: a, x.length ≤ 40000) :
    Calls Tryz.prog 30 #[tvA v, .slice A (w0 :: a).length cap] w (ExtP w base N (takeT v.t q a)) := by
  rcases foll_cases hf with ⟨rfl, h⟩ | ⟨rfl, h⟩ | ⟨rfl, h⟩ | ⟨h0, h1, h2, h3, h⟩
  · have hw0 : w0 = tableW := by
      have := rank_word hq (by decide)
      rcases this with ⟨_, h⟩ | ⟨h, _⟩ | ⟨h, _⟩ | ⟨h, _⟩ | ⟨h, _⟩ | ⟨h, _⟩ | ⟨h, _⟩ | ⟨h, _⟩ | ⟨h, _⟩ | ⟨h, _⟩ | ⟨h, _⟩ | ⟨h, _⟩ <;> first | exact h | omega
    subst hw0
    exact rExt_table v base N w hX a A cap hrb hl hw
  · have hw0 : w0 = pointW := by
      have := rank_word hq (by decide)
      rcases this with ⟨h, _⟩ | ⟨_, h⟩ | ⟨h, _⟩ | ⟨h, _⟩ | ⟨h, _⟩ | ⟨h, _⟩ | ⟨h, _⟩ | ⟨h, _⟩ | ⟨h, _⟩ | ⟨h, _⟩ | ⟨h, _⟩ | ⟨h, _⟩ <;> first | exact h | omega
    subst hw0
    exact rExt_point v base N w hX (hk.lo (by omega)) ⟨hs.s2, hs.s3⟩ a A cap hrb hl hw
  · have hw0 : w0 = routeW := by
      have := rank_word hq (by decide)
      rcases this with ⟨h, _⟩ | ⟨h, _⟩ | ⟨_, h⟩ | ⟨h, _⟩ | ⟨h, _⟩ | ⟨h, _⟩ | ⟨h, _⟩ | ⟨h, _⟩ | ⟨h, _⟩ | ⟨h, _⟩ | ⟨h, _⟩ | ⟨h, _⟩ <;> first | exact h | omega
    subst hw0
    exact rExt_route v base N w hX hs.s1 a A cap hrb hl hw
  · have hq0 := (rank_le w0).1
    rw [hq] at hq0
    have := rExt_list v base N w hX hN w0 q hq (by omega) (hk.hi h.1) hs.s1 a A cap hrb hl hw
    rwa [← takeT_hi (t := v.t) (a := a) h1 h2 h3] at this
/-- What holds while the lines are read. -/
structure XPI (w2 : World) (rr : Nat) (k : Nat) (v : TabV) (p : Int) (wr : World) : Prop where
  x : Xt wr (w2.heap.size + 1) (fun b => b = w2.heap.size ∨ b = rr) v
  blk : Blk wr w2.heap.size 25 #[.slice v.A1 v.t.rts.length v.c1, .slice v.A2 v.t.pts.length v.c2, .slice v.A3 v.t.homes.length v.c3, .int .i64 v.t.nsec, .int .i64 v.t.nsig]
  bel : Below w2.heap.size w2 wr
  sm : SmT v.t k
  rk : RkT v.t p
  sc : SecsOk v.t
theorem XPI.start (w2 : World) (rr : Nat) : XPI w2 rr 0 tvZ 0 (w2.alloc (.cells #[.slice none 0 0, .slice none 0 0, .slice none 0 0, .int .i64 0, .int .i64 0] 25)) :=
  ⟨⟨⟨w2.heap.size + 1, fun _ => False, Nat.le_refl _, fun _ h => h.elim, [], World.ownsRow_nil _ _ _ _, rfl, by simp⟩, OwnR.nil _ _ _ _ (Nat.zero_le _), OwnR.nil _ _ _ _ (Nat.zero_le _), (fun b hb => by cases hb), i64z, i64z, by simp⟩, Blk.new _ _ _ _ rfl, (Below.refl _ _).alloc (Nat.le_refl _) _, ⟨by simp [tvZ, zT], by simp [tvZ, zT], by simp [tvZ, zT]⟩, ⟨fun _ => rfl, by omega⟩, by intro r hr; simp [tvZ, zT] at hr⟩
/-- Boxes of tables that the lists do not lead to may be written. -/
theorem Xt.set {w w' : World} {base g : Nat} {N : Nat → Prop} {cs : Array Value} {v : TabV} (h : Xt w base N v) (hN : N g) (hg : Blk w g 25 cs) (hs : ∀ b, b ≠ g → w'.heap[b]? = w.heap[b]?) (hz : w'.heap.size = w.heap.size) : Xt w' base N v := by
  obtain ⟨B, S, h1, h3, h2⟩ := h.r1
  exact ⟨⟨B, S, h1, h3, h2.same (fun b hb => hs b (h2.ne hg (by decide) b hb)) (fun b hb => hs b fun e => (h3 b hb).2 (e ▸ hN)) (by omega)⟩, h.r2.same0 fun b hb => hs b (h.r2.ne hg (by decide) b hb), h.r3.same0 fun b hb => hs b (h.r3.ne hg (by decide) b hb), h.ap, h.i1, h.i2, by have := h.le; omega⟩
theorem Xt.less {w : World} {base : Nat} {N N' : Nat → Prop} {v : TabV} (h : Xt w base N v) (hN : ∀ b, N' b → N b) : Xt w base N' v := by
  obtain ⟨B, S, h1, h3, h2⟩ := h.r1
  exact ⟨⟨B, S, h1, fun b hb => ⟨(h3 b hb).1, fun hn => (h3 b hb).2 (hN b hn)⟩, h2⟩, h.r2, h.r3, h.ap, h.i1, h.i2, h.le⟩
/-- A block that is not there yet is not led to. -/
theorem Xt.fresh {w : World} {base : Nat} {N : Nat → Prop} {v : TabV} (h : Xt w base N v) (g : Nat) (hg : w.heap.size ≤ g) : Xt w base (fun b => N b ∨ b = g) v := by
  obtain ⟨B, S, h1, h3, h2⟩ := h.r1
  have hB := h2.ble
  exact ⟨⟨B, S, h1, fun b hb => ⟨(h3 b hb).1, fun hn => by (rcases hn with hn | hn; exact (h3 b hb).2 hn; have := (h3 b hb).1; omega)⟩, h2⟩, h.r2, h.r3, h.ap, h.i1, h.i2, h.le⟩
theorem elLs {w : World} {S : Nat → Prop} {A : Option Addr} {ls : Lns} (h : RdS (cL cS) w S A ls) {k : Nat} (hk : k < ls.length) : ∃ b off A' cap', A = some ⟨b, off, none⟩ ∧ S b ∧ w.cell? ⟨b, off + k, none⟩ = some (.slice A' ls[k].length cap') ∧ (ls[k].length ≤ maxLen ∧ ls[k].length ≤ cap') ∧ RdS cS w S A' ls[k] := by
  obtain ⟨b, off, h1, h2⟩ := h.pick rfl
  obtain ⟨u, h3, h4⟩ := h2 k _ (List.getElem?_eq_getElem hk)
  obtain ⟨A', cap', rfl, h5, h6⟩ := cLS_cell2 h3
  exact ⟨b, off, A', cap', (h1 (by omega)).1, (h1 (by omega)).2, h4, h5, h6⟩
theorem XPI.step {w2 : World} {rr k : Nat} {v vn : TabV} {p : Int} {wr w' : World} (h : XPI w2 rr k v p wr) {ln : List (List UInt8)} (hs : stepT v.t p ln = some vn.t) (hl : ln.length ≤ 40000) (hx : Xt w' (w2.heap.size + 1) (fun b => b = w2.heap.size ∨ b = rr) vn) (hk : Blk w' w2.heap.size 25 #[.slice vn.A1 vn.t.rts.length vn.c1, .slice vn.A2 vn.t.pts.length vn.c2, .slice vn.A3 vn.t.homes.length vn.c3, .int .i64 vn.t.nsec, .int .i64 vn.t.nsig]) (hb : Below w2.heap.size wr w') : XPI w2 rr (k + 1) vn (rankF (ln.headD [])) w' :=
  have hi := step_inv hs h.sm h.rk
  ⟨hx, hk, h.bel.trans hb, hi.1, hi.2, step_L hs hl h.sc⟩
set_option maxRecDepth 100000 in
set_option maxHeartbeats 16000000 in
theorem rtparse_any (s : List UInt8) (w : World) (hs : s.length ≤ maxLen) (hs2 : s.length ≤ 20000) : Calls Tryz.prog 13 #[.string (bs s)] w (TParPost w (parT s)) := by
  obtain ⟨⟨ls, n, x⟩, hl⟩ : ∃ r, linesF s = r := ⟨_, rfl⟩
  have HL := Lib.hid fun W => rlnC hl W hs
  have hR0 : ResB w w.heap.size zCs (w.alloc (.cells zCs 25)) := ⟨(Below.refl _ _).alloc (Nat.le_refl _) _, Nat.le_refl _, Blk.new _ _ _ _ rfl⟩
  unfold zCs at hR0
  by_cases hx : x = 0
  case neg =>
    have HF := Lib.hid (tpar_bad hl hx)
    have hxb : (x != 0) = true := by simpa using hx
    clear hl hx hs
    go_enter Tryz.func13, Tryz.ntmps13
    go_wp2_with fail
    refine (HL.out _).mono ?_
    rintro e w2 ⟨A, cap, rfl, hml, hrd, hq⟩
    have hR2 := hR0.now hq
    have z0 := hR2.blk.cell 0
    have z1 := hR2.blk.cell 1
    have z2 := hR2.blk.cell 2
    have z3 := hR2.blk.cell 3
    have z4 := hR2.blk.cell 4
    have zf := hR2.blk.free
    simp only [List.getElem?_toArray, List.getElem?_cons_zero, List.getElem?_cons_succ] at z0 z1 z2 z3 z4
    have HB := Lib.hid (put5_bel hR2 (.slice none 0 0) (.slice none 0 0) (.slice none 0 0) (.int .i64 0) (.int .i64 0))
    clear hR0 hR2 hq hrd hml
    go_wp2_with fail
    exact bodyPost_ret (v := .tuple #[.agg #[.slice none 0 0, .slice none 0 0, .slice none 0 0, .int .i64 0, .int .i64 0], .int .i64 n, .int .i64 x]) (by simp [results, Tryz.results13, go_sem, z0, z1, z2, z3, z4] <;> (try have := HK0.out ()) <;> omega) rfl (tparPost_no HF.out rfl HB.out)
  subst hx
  by_cases hne : ls = []
  case pos =>
    subst hne
    have HF := Lib.hid (tpar_empty hl)
    clear hl hs
    go_enter Tryz.func13, Tryz.ntmps13
    go_wp2_with fail
    refine (HL.out _).mono ?_
    rintro e w2 ⟨A, cap, rfl, hml, hrd, hq⟩
    have hR2 := hR0.now hq
    have z0 := hR2.blk.cell 0
    have z1 := hR2.blk.cell 1
    have z2 := hR2.blk.cell 2
    have z3 := hR2.blk.cell 3
    have z4 := hR2.blk.cell 4
    have zf := hR2.blk.free
    simp only [List.getElem?_toArray, List.getElem?_cons_zero, List.getElem?_cons_succ] at z0 z1 z2 z3 z4
    have HB := Lib.hid (put5_bel hR2 (.slice none 0 0) (.slice none 0 0) (.slice none 0 0) (.int .i64 0) (.int .i64 0))
    clear hR0 hR2 hq hrd hml
    go_wp2_with fail
    exact bodyPost_ret (v := .tuple #[.agg #[.slice none 0 0, .slice none 0 0, .slice none 0 0, .int .i64 0, .int .i64 0], .int .i64 1, .int .i64 4]) (by simp [results, Tryz.results13, go_sem, z0, z1, z2, z3, z4] <;> (try have := HK0.out ()) <;> omega) rfl (tparPost_no HF.out rfl HB.out)
  have hgo := tpar_go hl hne
  obtain ⟨hgood, htx, hn0, hshort⟩ := lines_ok hl
  have HG := Lib.hid (good_words hgood)
  have hls : ls.length ≤ 20000 := by have := lines_few ls; rw [← htx] at this; omega
  have HCN : Hid (∀ x ∈ ls, x.length ≤ 30000) := Lib.hid fun x hx => by have h1 := cnt_text ls hgood; have h2 := cnt_mem hx; rw [← htx] at h1; omega
  have hlp := List.length_pos_iff.2 hne
  have hl0 : ((ls.length : Int) == 0) = false := by simp; omega
  have HP := Lib.hid hgo
  clear hl hs hgood htx hshort hgo hne hn0 hs2
  go_enter Tryz.func13, Tryz.ntmps13
  go_wp2_with fail
  refine (HL.out _).mono ?_
  rintro e w2 ⟨A, cap, rfl, hml, hrd, hq⟩
  have hR2 := hR0.now hq
  have hrlt := hR2.blk.lt
  have hPI := XPI.start w2 w.heap.size
  clear hR0 hq HL
  dsimp only at hml hrd ⊢
  go_wp2_with fail
  go_loopw [9, 10] (fun l i wr => ∃ (k : Nat) (v : TabV) (p d : Int), k ≤ ls.length ∧ i = .int .i64 k ∧ l = .int .i64 d ∧ Hid (d = p - 1) ∧ Hid ((k = 0 → p = 0) ∧ (k ≠ 0 → 1 ≤ p)) ∧ XPI w2 w.heap.size k v p wr ∧ Hid (readT v.t p k (ls.drop k) = readT zT 0 0 ls)) (fun _ i _ => ls.length - (intOf i).toNat)
  case atStart => exact ⟨0, tvZ, 0, -1, Nat.zero_le _, rfl, rfl, Lib.hid (by decide), Lib.hid ⟨fun _ => rfl, fun h => absurd rfl h⟩, hPI, Lib.hid rfl⟩
  case round =>
    obtain ⟨k, v, p, d, hk, rfl, rfl, HD, HZ, hb, HK⟩ := hrel
    clear hPI
    have hsz := hb.bel.size
    have hRr := hR2.low hrlt hb.bel
    have lr := hRr.blk.lt
    by_cases hlt : k < ls.length
    · have hki : (k : Int) < (ls.length : Int) := by omega
      obtain ⟨b, off, A', cap', hA, lb0, y0, hcap, hr'⟩ := elLs (hrd.low hb.bel) hlt
      have lb : b < w2.heap.size := lb0
      obtain ⟨hne, hwl⟩ := HG.out _ (List.getElem_mem hlt)
      have hll := HCN.out _ (List.getElem_mem hlt)
      have HNX := Lib.hid fun t' h => tk_next (t' := t') hlt HK.out h
      have HST := Lib.hid fun h => tk_stop hlt HK.out h
      clear HK
      generalize ls[k] = ln at *
      match ln, hne with
      | w0 :: a, _ =>
      have HW := Lib.hid (fun x hx => (word_ok (hwl x hx)).1)
      obtain ⟨b1, off1, hA1, lb1, -, y1⟩ := hr'.elS (i := 0) (by simp)
      have lb1' : b1 < w2.heap.size := lb1
      subst hA1
      simp only [List.getElem_cons_zero, Nat.add_zero] at y1
      have HRW := Lib.hid hr'
      obtain ⟨q, hq⟩ : ∃ q, rankF w0 = q := ⟨_, rfl⟩
      have hq0 := rank_le w0
      rw [hq] at hq0
      have HRK := Lib.hid fun W => rRankC hq W
      have hp0 : 0 ≤ p := by (by_cases h : k = 0; (have := HZ.out.1 h; omega); (have := HZ.out.2 h; omega))
      have hfr := foll_r (p := p) (k := q) hp0 hq0.1
      have HQ := Lib.hid hq
      simp only [List.length_cons] at y0 hll hcap
      have hcl : (0 : Int) < (a.length : Int) + 1 := by omega
      rw [hA]
      have HA := Lib.hid hA
      clear hA hq hr' hwl lb0 lb1
      have HFO := Lib.hid fun (c : Bool) (h : rfoll (p - 1) (q - 1) = c) W => rFollowsC h W
      rw [← HD.out] at HFO
      go_wp2_with fail
      refine (HRK.out _).mono ?_
      rintro e w3 ⟨rfl, hq3⟩
      have hb3 : Below w2.heap.size w2 w3 := hb.bel.trans (hq3.mono hsz)
      have hR3 := hRr.now hq3
      have hX3 := hb.x.now hq3
      have bx3 := hb.blk.now hq3
      have y0' : w3.cell? ⟨b, off + k, none⟩ = some (.slice (some ⟨b1, off1, none⟩) (a.length + 1) cap') := (hq3.cell (p := ⟨b, off + k, none⟩) (show b < wr.heap.size by omega)).trans y0
      have hs3 := hb3.size
      clear HRK y0 y1
      cases hf : follB p q with
      | false =>
        have HF : Hid (parT s = (zT, k + 1, 4)) := Lib.hid (by rw [HP.out, HST.out (stepT_no (by rw [HQ.out]; exact hf)), tend_bad])
        rw [hf] at hfr
        have HK1 : Hid (∀ _ : Unit, (k : Int) + 1 ≤ 40000) := Lib.hid fun _ => by omega
        have HKI := Lib.hid fun _ : Unit => And.intro hki (And.intro hlt hk)
        by_cases hk0 : k = 0
        · have hp := HZ.out.1 hk0
          rw [if_pos hp] at hfr
          have hq1 : ¬ q = 1 := by simpa using hfr.symm
          have t1 : ((k : Int) == 0) = true := by simp; omega
          have t2 : ((q - 1) != 0) = true := by simp; omega
          have hk2 : decide ((0 : Int) < (k : Int)) = false := by simp; omega
          have hk3 : ¬ (0 : Int) < (k : Int) := by omega
          have hk4 : ¬ 0 < k := by omega
          have HK0 := Lib.hid fun _ : Unit => hk0
          clear hfr hq1 hf hk0 hp hki hlt hk
          have hk1 := HK1.out ()
          have z0 := hR3.blk.cell 0
          have z1 := hR3.blk.cell 1
          have z2 := hR3.blk.cell 2
          have z3 := hR3.blk.cell 3
          have z4 := hR3.blk.cell 4
          have zf := hR3.blk.free
          simp only [List.getElem?_toArray, List.getElem?_cons_zero, List.getElem?_cons_succ] at z0 z1 z2 z3 z4
          have HB := Lib.hid (put5_bel hR3 (.slice none 0 0) (.slice none 0 0) (.slice none 0 0) (.int .i64 0) (.int .i64 0))
          clear hR3 hRr hR2
          go_wp2_with fail
          exact bodyPost_ret (v := .tuple #[.agg #[.slice none 0 0, .slice none 0 0, .slice none 0 0, .int .i64 0, .int .i64 0], .int .i64 ((k + 1 : Nat) : Int), .int .i64 4]) (by simp [results, Tryz.results13, go_sem, z0, z1, z2, z3, z4] <;> (try have := HK0.out ()) <;> omega) rfl (tparPost_no HF.out rfl HB.out)
        · have hp : ¬ p = 0 := by have := HZ.out.2 hk0; omega
          rw [if_neg hp] at hfr
          have hfr2 := hfr.symm
          rw [← HD.out] at hfr2
          have HFC := Lib.hid (HFO.out false hfr2)
          clear hfr2
          have t1 : ((k : Int) == 0) = false := by simp; omega
          have hk2 : (0 : Int) < (k : Int) := by omega
          have HK0 := Lib.hid fun _ : Unit => hk0
          clear hfr hf hk0 hp hki hlt hk
          go_wp2_with fail
          refine (HFC.out _).mono ?_
          rintro e w4 ⟨rfl, rfl⟩
          have hk1 := HK1.out ()
          have z0 := hR3.blk.cell 0
          have z1 := hR3.blk.cell 1
          have z2 := hR3.blk.cell 2
          have z3 := hR3.blk.cell 3
          have z4 := hR3.blk.cell 4
          have zf := hR3.blk.free
          simp only [List.getElem?_toArray, List.getElem?_cons_zero, List.getElem?_cons_succ] at z0 z1 z2 z3 z4
          have HB := Lib.hid (put5_bel hR3 (.slice none 0 0) (.slice none 0 0) (.slice none 0 0) (.int .i64 0) (.int .i64 0))
          clear hR3 hRr hR2
          go_wp2_with fail
          exact bodyPost_ret (v := .tuple #[.agg #[.slice none 0 0, .slice none 0 0, .slice none 0 0, .int .i64 0, .int .i64 0], .int .i64 ((k + 1 : Nat) : Int), .int .i64 4]) (by simp [results, Tryz.results13, go_sem, z0, z1, z2, z3, z4] <;> (try have := HK0.out ()) <;> omega) rfl (tparPost_no HF.out rfl HB.out)
      | true =>
        rw [hf] at hfr
        have HKI := Lib.hid fun _ : Unit => And.intro hki (And.intro hlt hk)
        by_cases hk0 : k = 0
        case' pos =>
          have hp := HZ.out.1 hk0
          rw [if_pos hp] at hfr
          have hq1 : q = 1 := by simpa using hfr.symm
          have t1 : ((k : Int) == 0) = true := by simp; omega
          have t2 : ((q - 1) != 0) = false := by rw [hq1]; rfl
          have hk2 : decide ((0 : Int) < (k : Int)) = false := by simp; omega
          have hk3 : ¬ (0 : Int) < (k : Int) := by omega
          have hk4 : ¬ 0 < k := by omega
          have HK0 := Lib.hid fun _ : Unit => hk0
          clear hfr hq1 hk0 hp hki hlt hk
          go_wp2_with fail
        case' neg =>
          have hp : ¬ p = 0 := by have := HZ.out.2 hk0; omega
          rw [if_neg hp] at hfr
          have hfr2 := hfr.symm
          rw [← HD.out] at hfr2
          have HFC := Lib.hid (HFO.out true hfr2)
          clear hfr2
          have t1 : ((k : Int) == 0) = false := by simp; omega
          have hk2 : (0 : Int) < (k : Int) := by omega
          have HK0 := Lib.hid fun _ : Unit => hk0
          clear hfr hk0 hp hki hlt hk
          go_wp2_with fail
          refine (HFC.out _).mono ?_
          rintro e w4 ⟨rfl, rfl⟩
          go_wp2_with fail
        all_goals (
          have hki := (HKI.out ()).1
          have hlt := (HKI.out ()).2.1
          have hk := (HKI.out ()).2.2
          have x0 := bx3.cell 0
          have x1 := bx3.cell 1
          have x2 := bx3.cell 2
          have x3 := bx3.cell 3
          have x4 := bx3.cell 4
          simp only [List.getElem?_toArray, List.getElem?_cons_zero, List.getElem?_cons_succ] at x0 x1 x2 x3 x4
          have hlx := bx3.lt
          have hgl : w2.heap.size + 1 ≤ w3.heap.size := hlx
          have HSS : Hid (∀ W, Below (w2.heap.size + 1) w3 W → (fun w' => w'.cell? ⟨w2.heap.size, 0, none⟩ = some (.slice v.A1 v.t.rts.length v.c1) ∧ w'.cell? ⟨w2.heap.size, 1, none⟩ = some (.slice v.A2 v.t.pts.length v.c2) ∧ w'.cell? ⟨w2.heap.size, 2, none⟩ = some (.slice v.A3 v.t.homes.length v.c3) ∧ w'.cell? ⟨w2.heap.size, 3, none⟩ = some (.int .i64 v.t.nsec) ∧ w'.cell? ⟨w2.heap.size, 4, none⟩ = some (.int .i64 v.t.nsig) ∧ w'.cell? ⟨b, off + k, none⟩ = some (.slice (some ⟨b1, off1, none⟩) (a.length + 1) cap') ∧ Below (w2.heap.size + 1) w3 w') W) := Lib.hid fun W h => ⟨(h.cell (p := ⟨w2.heap.size, 0, none⟩) (Nat.lt_succ_self _)).trans x0, (h.cell (p := ⟨w2.heap.size, 1, none⟩) (Nat.lt_succ_self _)).trans x1, (h.cell (p := ⟨w2.heap.size, 2, none⟩) (Nat.lt_succ_self _)).trans x2, (h.cell (p := ⟨w2.heap.size, 3, none⟩) (Nat.lt_succ_self _)).trans x3, (h.cell (p := ⟨w2.heap.size, 4, none⟩) (Nat.lt_succ_self _)).trans x4, (h.cell (p := ⟨b, off + k, none⟩) (show b < w2.heap.size + 1 by omega)).trans y0', h⟩
          have HRL : Hid (RdS cS w3 (fun j => j < (w2.heap.size + 1)) (some ⟨b1, off1, none⟩) (w0 :: a)) := Lib.hid ((HRW.out.low (hq3.mono hsz)).more fun j hj => Nat.lt_succ_of_lt hj)
          have hsm := hb.sm.le (show k ≤ 40000 by omega)
          have HEX : Hid (∀ (N : Nat → Prop) W, Below (w2.heap.size + 1) w3 W → Xt W (w2.heap.size + 1) N v → (∀ b, N b → ∃ cs, Blk W b 25 cs) → Calls Tryz.prog 30 #[.agg #[.slice v.A1 v.t.rts.length v.c1, .slice v.A2 v.t.pts.length v.c2, .slice v.A3 v.t.homes.length v.c3, .int .i64 v.t.nsec, .int .i64 v.t.nsig], .slice (some ⟨b1, off1, none⟩) (a.length + 1) cap'] W (ExtP W (w2.heap.size + 1) N (takeT v.t q a))) := Lib.hid fun N W h hx hn => rExt_any v _ N W hx hn w0 p q HQ.out hb.rk hsm hf a _ cap' (HRL.out.low h) (by omega) HW.out
          have HRK2 := Lib.hid hb
          clear y0' x0 x1 x2 x3 x4 hsm hb HRW HRL
          refine wp_region_held_drew (S := (fun w' => w'.cell? ⟨w2.heap.size, 0, none⟩ = some (.slice v.A1 v.t.rts.length v.c1) ∧ w'.cell? ⟨w2.heap.size, 1, none⟩ = some (.slice v.A2 v.t.pts.length v.c2) ∧ w'.cell? ⟨w2.heap.size, 2, none⟩ = some (.slice v.A3 v.t.homes.length v.c3) ∧ w'.cell? ⟨w2.heap.size, 3, none⟩ = some (.int .i64 v.t.nsec) ∧ w'.cell? ⟨w2.heap.size, 4, none⟩ = some (.int .i64 v.t.nsig) ∧ w'.cell? ⟨b, off + k, none⟩ = some (.slice (some ⟨b1, off1, none⟩) (a.length + 1) cap') ∧ Below (w2.heap.size + 1) w3 w')) (by kernel_rfl) (HSS.out _ (Below.refl _ _).drew) (fun hHeld => ?_)
          refine tkY (i := 0) (oi := .mk _ _ _ _ _ _) (v := ?_) rfl (by kernel_rfl) (fun _ _ _ h => h) (Or.inl ⟨by rfl, ?_⟩) (by assumption) ?_
          rotate_left
          · intro W hSw; (try dsimp only at hSw); go_simp; first | done | with_reducible rfl
          try simp only [Act.put, lsa, lsz, lss]
          refine tkY (i := 1) (oi := .mk _ _ _ _ _ _) (v := ?_) rfl (by kernel_rfl) (fun _ _ _ h => h) (Or.inl ⟨by rfl, ?_⟩) (by assumption) ?_
          rotate_left
          · intro W hSw; (try dsimp only at hSw); go_simp; first | done | with_reducible rfl
          try simp only [Act.put, lsa, lsz, lss]
          refine tkY (i := 2) (oi := .mk _ _ _ _ _ _) (v := ?_) rfl (by kernel_rfl) (fun _ _ _ h => h) (Or.inl ⟨by rfl, ?_⟩) (by assumption) ?_
          rotate_left
          · intro W hSw; (try dsimp only at hSw); go_simp; first | done | with_reducible rfl
          try simp only [Act.put, lsa, lsz, lss]
          refine tkY (i := 3) (oi := .mk _ _ _ _ _ _) (v := ?_) rfl (by kernel_rfl) (fun _ _ _ h => h) (Or.inl ⟨by rfl, ?_⟩) (by assumption) ?_
          rotate_left
          · intro W hSw; (try dsimp only at hSw); go_simp; first | done | with_reducible rfl
          try simp only [Act.put, lsa, lsz, lss]
          refine tkY (i := 4) (oi := .mk _ _ _ _ _ _) (v := ?_) rfl (by kernel_rfl) (fun _ _ _ h => h) (Or.inl ⟨by rfl, ?_⟩) (by assumption) ?_
          rotate_left
          · intro W hSw; (try dsimp only at hSw); go_simp; first | done | with_reducible rfl
          try simp only [Act.put, lsa, lsz, lss]
          refine wpAnyH_ready (rs := [5, 9]) (by kernel_rfl) (by simp) (AllReadyH.cons (o := .mk _ _ _ _ _ _) rfl (fun K hK => ?_) (AllReadyH.cons (o := .mk _ _ _ _ _ _) rfl (fun K hK => ?_) AllReadyH.nil))
          rotate_left 1
          focus
            go_simp
            refine hK.out _ _ ?_ (fun hHeld => ?_)
            · exact HSS.out _ ((Below.refl _ _).alloc hgl _).drew
            clear hK K
            try simp only [Act.put, lsa, lsz, lss]
            refine wpAnyH_ready (rs := [5]) (by kernel_rfl) (by simp) (AllReadyH.cons (o := .mk _ _ _ _ _ _) rfl (fun K hK => ?_) AllReadyH.nil)
            go_simp
            go_at_call 30
            have hbz9 : Blk ((w3.alloc (.cells #[.slice none 0 0, .slice none 0 0, .slice none 0 0, .int .i64 0, .int .i64 0] 25)).drew) w3.heap.size 25 #[.slice none 0 0, .slice none 0 0, .slice none 0 0, .int .i64 0, .int .i64 0] := (Blk.new _ _ _ _ rfl).drew
            have hal9 : Below w3.heap.size w3 ((w3.alloc (.cells #[.slice none 0 0, .slice none 0 0, .slice none 0 0, .int .i64 0, .int .i64 0] 25)).drew) := ((Below.refl _ _).alloc (Nat.le_refl _) _).drew
            refine (HEX.out (fun b => (b = w2.heap.size ∨ b = w.heap.size) ∨ b = w3.heap.size) _ (hal9.mono hgl) ((hX3.fresh w3.heap.size (Nat.le_refl _)).now hal9) (fun b hb => by (rcases hb with (hb | hb) | hb; (subst hb; exact ⟨_, bx3.now hal9⟩); (subst hb; exact ⟨_, hR3.blk.now hal9⟩); (subst hb; exact ⟨_, hbz9⟩)))).mono ?_
            rintro e wq ⟨vn, rfl, hbq, hkt, hxt⟩
            have hbw : Below (w2.heap.size + 1) w3 wq := (hal9.mono hgl).trans hbq
            have hsw : w3.heap.size ≤ wq.heap.size := hbw.size
            have bz9 := hkt.out _ _ hbz9
            unfold tvA
            go_wp2_with fail
            refine hK.out _ _ ?_ (fun hHeld => ?_)
            · exact HSS.out _ hbw
            clear hK K
            try simp only [Act.put, lsa, lsz, lss]
            refine tkY (i := 6) (oi := .mk _ _ _ _ _ _) (v := ?_) rfl (by kernel_rfl) (fun _ _ _ h => h) (Or.inl ⟨by rfl, ?_⟩) (by assumption) ?_
            rotate_left
            · intro W hSw; (try dsimp only at hSw); go_simp; first | done | with_reducible rfl
            try simp only [Act.put, lsa, lsz, lss]
            refine tkY (i := 7) (oi := .mk _ _ _ _ _ _) (v := ?_) rfl (by kernel_rfl) (fun _ _ _ h => h) (Or.inl ⟨by rfl, ?_⟩) (by assumption) ?_
            rotate_left
            · intro W hSw; (try dsimp only at hSw); go_simp; first | done | with_reducible rfl
            try simp only [Act.put, lsa, lsz, lss]
            refine tkY (i := 8) (oi := .mk _ _ _ _ _ _) (v := ?_) rfl (by kernel_rfl) (fun _ _ _ h => h) (Or.inl ⟨by rfl, ?_⟩) (by assumption) ?_
            rotate_left
            · intro W hSw; (try dsimp only at hSw); go_simp; first | done | with_reducible rfl
            try simp only [Act.put, lsa, lsz, lss]
            have u0 := bz9.cell 0
            have u1 := bz9.cell 1
            have u2 := bz9.cell 2
            have u3 := bz9.cell 3
            have u4 := bz9.cell 4
            simp only [List.getElem?_toArray, List.getElem?_cons_zero, List.getElem?_cons_succ] at u0 u1 u2 u3 u4
            have uf := bz9.free
            have hbP := put5_low hbw hgl (.slice vn.A1 vn.t.rts.length vn.c1) (.slice vn.A2 vn.t.pts.length vn.c2) (.slice vn.A3 vn.t.homes.length vn.c3) (.int .i64 vn.t.nsec) (.int .i64 vn.t.nsig)
            refine wpAnyH_ready (rs := [10]) (by kernel_rfl) (by simp) (AllReadyH.cons (o := .mk _ _ _ _ _ _) rfl (fun K hK => ?_) AllReadyH.nil)
            go_simp
            refine hK.out _ _ ?_ (fun hHeld => ?_)
            · exact HSS.out _ hbP
            clear hK K
            try simp only [Act.put, lsa, lsz, lss]
            refine tkY (i := 11) (oi := .mk _ _ _ _ _ _) (v := ?_) rfl (by kernel_rfl) (fun _ _ _ h => h) (Or.inl ⟨by rfl, ?_⟩) (by assumption) ?_
            rotate_left
            · intro W hSw; (try dsimp only at hSw); go_simp; first | done | with_reducible rfl
            try simp only [Act.put, lsa, lsz, lss]
            refine wpAnyH_done (by kernel_rfl) ?_ _
            clear uf u0 u1 u2 u3 u4
            have hb4 : Below (w2.heap.size + 1) w3 (put5 wq w3.heap.size (.slice vn.A1 vn.t.rts.length vn.c1) (.slice vn.A2 vn.t.pts.length vn.c2) (.slice vn.A3 vn.t.homes.length vn.c3) (.int .i64 vn.t.nsec) (.int .i64 vn.t.nsig)) := hbP
            have bn := put5_blk bz9 (.slice vn.A1 vn.t.rts.length vn.c1) (.slice vn.A2 vn.t.pts.length vn.c2) (.slice vn.A3 vn.t.homes.length vn.c3) (.int .i64 vn.t.nsec) (.int .i64 vn.t.nsig)
            have hxt4 : Hid (∀ x, takeT v.t q a = some x → vn.t = x ∧ Xt (put5 wq w3.heap.size (.slice vn.A1 vn.t.rts.length vn.c1) (.slice vn.A2 vn.t.pts.length vn.c2) (.slice vn.A3 vn.t.homes.length vn.c3) (.int .i64 vn.t.nsec) (.int .i64 vn.t.nsig)) (w2.heap.size + 1) (fun b => b = w2.heap.size ∨ b = w.heap.size) vn) := Lib.hid fun x h => ⟨(hxt.out x h).1, ((hxt.out x h).2.set (Or.inr rfl) bz9 (fun b hb => put5_far _ _ _ _ _ _ _ _ hb) (put5_size _ _ _ _ _ _ _)).less fun b hb => Or.inl hb⟩
            clear hxt hkt hbq hbw hHeld hbP bz9 hbz9 hal9
            unfold put5 at hb4 bn hxt4
            generalize (((((wq.setCell ⟨w3.heap.size, 0, none⟩ (.slice vn.A1 vn.t.rts.length vn.c1)).setCell ⟨w3.heap.size, 1, none⟩ (.slice vn.A2 vn.t.pts.length vn.c2)).setCell ⟨w3.heap.size, 2, none⟩ (.slice vn.A3 vn.t.homes.length vn.c3)).setCell ⟨w3.heap.size, 3, none⟩ (.int .i64 vn.t.nsec)).setCell ⟨w3.heap.size, 4, none⟩ (.int .i64 vn.t.nsig)) = W4 at *
            obtain ⟨g12, hg12⟩ : ∃ g, g = w3.heap.size := ⟨_, rfl⟩
            rw [← hg12] at bn ⊢
            have hge : (w2.heap.size + 1) ≤ g12 := by omega
            clear hg12
          rotate_right 1
          focus
            go_simp
            go_at_call 30
            refine (HEX.out (fun b => b = w2.heap.size ∨ b = w.heap.size) _ (Below.refl _ _).drew (hX3.now (Below.refl _ _).drew) (fun b hb => by (rcases hb with hb | hb; (subst hb; exact ⟨_, bx3.drew⟩); (subst hb; exact ⟨_, hR3.blk.drew⟩)))).mono ?_
            rintro e wq ⟨vn, rfl, hbq, hkt, hxt⟩
            have hbw : Below (w2.heap.size + 1) w3 wq := (Below.refl _ _).drew.trans hbq
            have hsw : w3.heap.size ≤ wq.heap.size := hbw.size
            unfold tvA
            go_wp2_with fail
            refine hK.out _ _ ?_ (fun hHeld => ?_)
            · exact HSS.out _ hbw
            clear hK K
            try simp only [Act.put, lsa, lsz, lss]
            refine tkY (i := 6) (oi := .mk _ _ _ _ _ _) (v := ?_) rfl (by kernel_rfl) (fun _ _ _ h => h) (Or.inl ⟨by rfl, ?_⟩) (by assumption) ?_
            rotate_left
            · intro W hSw; (try dsimp only at hSw); go_simp; first | done | with_reducible rfl
            try simp only [Act.put, lsa, lsz, lss]
            refine tkY (i := 7) (oi := .mk _ _ _ _ _ _) (v := ?_) rfl (by kernel_rfl) (fun _ _ _ h => h) (Or.inl ⟨by rfl, ?_⟩) (by assumption) ?_
            rotate_left
            · intro W hSw; (try dsimp only at hSw); go_simp; first | done | with_reducible rfl
            try simp only [Act.put, lsa, lsz, lss]
            refine tkY (i := 8) (oi := .mk _ _ _ _ _ _) (v := ?_) rfl (by kernel_rfl) (fun _ _ _ h => h) (Or.inl ⟨by rfl, ?_⟩) (by assumption) ?_
            rotate_left
            · intro W hSw; (try dsimp only at hSw); go_simp; first | done | with_reducible rfl
            try simp only [Act.put, lsa, lsz, lss]
            refine wpAnyH_ready (rs := [9]) (by kernel_rfl) (by simp) (AllReadyH.cons (o := .mk _ _ _ _ _ _) rfl (fun K hK => ?_) AllReadyH.nil)
            go_simp
            refine hK.out _ _ ?_ (fun hHeld => ?_)
            · exact HSS.out _ (hbw.alloc (Nat.le_trans hgl hsw) _)
            clear hK K
            try simp only [Act.put, lsa, lsz, lss]
            refine wpAnyH_ready (rs := [10]) (by kernel_rfl) (by simp) (AllReadyH.cons (o := .mk _ _ _ _ _ _) rfl (fun K hK => ?_) AllReadyH.nil)
            go_simp
            refine hK.out _ _ ?_ (fun hHeld => ?_)
            · exact HSS.out _ (hbw.alloc (Nat.le_trans hgl hsw) _)
            clear hK K
            try simp only [Act.put, lsa, lsz, lss]
            refine tkY (i := 11) (oi := .mk _ _ _ _ _ _) (v := ?_) rfl (by kernel_rfl) (fun _ _ _ h => h) (Or.inl ⟨by rfl, ?_⟩) (by assumption) ?_
            rotate_left
            · intro W hSw; (try dsimp only at hSw); go_simp; first | done | with_reducible rfl
            try simp only [Act.put, lsa, lsz, lss]
            refine wpAnyH_done (by kernel_rfl) ?_ _
            have hb4 : Below (w2.heap.size + 1) w3 (wq.alloc (.cells #[.slice vn.A1 vn.t.rts.length vn.c1, .slice vn.A2 vn.t.pts.length vn.c2, .slice vn.A3 vn.t.homes.length vn.c3, .int .i64 vn.t.nsec, .int .i64 vn.t.nsig] 25)) := hbw.alloc (Nat.le_trans hgl hsw) _
            have bn : Blk (wq.alloc (.cells #[.slice vn.A1 vn.t.rts.length vn.c1, .slice vn.A2 vn.t.pts.length vn.c2, .slice vn.A3 vn.t.homes.length vn.c3, .int .i64 vn.t.nsec, .int .i64 vn.t.nsig] 25)) wq.heap.size 25 #[.slice vn.A1 vn.t.rts.length vn.c1, .slice vn.A2 vn.t.pts.length vn.c2, .slice vn.A3 vn.t.homes.length vn.c3, .int .i64 vn.t.nsec, .int .i64 vn.t.nsig] := Blk.new _ _ _ _ rfl
            have hxt4 : Hid (∀ x, takeT v.t q a = some x → vn.t = x ∧ Xt (wq.alloc (.cells #[.slice vn.A1 vn.t.rts.length vn.c1, .slice vn.A2 vn.t.pts.length vn.c2, .slice vn.A3 vn.t.homes.length vn.c3, .int .i64 vn.t.nsec, .int .i64 vn.t.nsig] 25)) (w2.heap.size + 1) (fun b => b = w2.heap.size ∨ b = w.heap.size) vn) := Lib.hid fun x h => ⟨(hxt.out x h).1, (hxt.out x h).2.now ((Below.refl _ _).alloc (Nat.le_refl _) _)⟩
            have hge : (w2.heap.size + 1) ≤ wq.heap.size := Nat.le_trans hgl hsw
            clear hxt hkt hbq hbw hHeld
            generalize wq.alloc (.cells #[.slice vn.A1 vn.t.rts.length vn.c1, .slice vn.A2 vn.t.pts.length vn.c2, .slice vn.A3 vn.t.homes.length vn.c3, .int .i64 vn.t.nsec, .int .i64 vn.t.nsig] 25) = W4 at *
            generalize wq.heap.size = g12 at *
          all_goals (
            clear HSS HEX
            have hR4 := hR3.low (show w.heap.size < (w2.heap.size + 1) by omega) hb4
            have bx4 := bx3.below hb4 (Nat.lt_succ_self _)
            have hst := stepT_go (t := v.t) (a := a) HQ.out hf
            cases ho : takeT v.t q a with
            | none =>
              have HF : Hid (parT s = (zT, k + 1, 4)) := Lib.hid (by rw [HP.out, HST.out (hst.trans ho), tend_bad])
              have hk1 : (k : Int) + 1 ≤ 40000 := by omega
              have z0 := hR4.blk.cell 0
              have z1 := hR4.blk.cell 1
              have z2 := hR4.blk.cell 2
              have z3 := hR4.blk.cell 3
              have z4 := hR4.blk.cell 4
              have zf := hR4.blk.free
              simp only [List.getElem?_toArray, List.getElem?_cons_zero, List.getElem?_cons_succ] at z0 z1 z2 z3 z4
              have HB := Lib.hid (put5_bel hR4 (.slice none 0 0) (.slice none 0 0) (.slice none 0 0) (.int .i64 0) (.int .i64 0))
              clear hR4 hR3 hRr hR2 bn bx4 hxt4 ho hst
              go_wp2_with fail
              exact bodyPost_ret (v := .tuple #[.agg #[.slice none 0 0, .slice none 0 0, .slice none 0 0, .int .i64 0, .int .i64 0], .int .i64 ((k + 1 : Nat) : Int), .int .i64 4]) (by simp [results, Tryz.results13, go_sem, z0, z1, z2, z3, z4] <;> (try have := HK0.out ()) <;> omega) rfl (tparPost_no HF.out rfl HB.out)
            | some t' =>
              obtain ⟨htv, hX4⟩ := hxt4.out t' ho
              have HN := Lib.hid (HNX.out t' (hst.trans ho))
              have x0 := bx4.cell 0
              have x1 := bx4.cell 1
              have x2 := bx4.cell 2
              have x3 := bx4.cell 3
              have x4 := bx4.cell 4
              have y0 := bn.cell 0
              have y1 := bn.cell 1
              have y2 := bn.cell 2
              have y3 := bn.cell 3
              have y4 := bn.cell 4
              simp only [List.getElem?_toArray, List.getElem?_cons_zero, List.getElem?_cons_succ] at x0 x1 x2 x3 x4 y0 y1 y2 y3 y4
              have xf := bx4.free
              have hne12 : g12 ≠ w2.heap.size := by omega
              have hne13 : w2.heap.size ≠ g12 := by omega
              have hXf : Xt (put5 W4 w2.heap.size (.slice vn.A1 vn.t.rts.length vn.c1) (.slice vn.A2 vn.t.pts.length vn.c2) (.slice vn.A3 vn.t.homes.length vn.c3) (.int .i64 vn.t.nsec) (.int .i64 vn.t.nsig)) (w2.heap.size + 1) (fun b => b = w2.heap.size ∨ b = w.heap.size) vn := hX4.set (Or.inl rfl) bx4 (fun b hb => put5_far _ _ _ _ _ _ _ _ hb) (put5_size _ _ _ _ _ _ _)
              have hBf : Below w2.heap.size wr (put5 W4 w2.heap.size (.slice vn.A1 vn.t.rts.length vn.c1) (.slice vn.A2 vn.t.pts.length vn.c2) (.slice vn.A3 vn.t.homes.length vn.c3) (.int .i64 vn.t.nsec) (.int .i64 vn.t.nsig)) := put5_low ((hq3.mono hsz).trans (hb4.mono (Nat.le_succ _))) (Nat.le_refl _) _ _ _ _ _
              have hPI := HRK2.out.step (vn := vn) (ln := w0 :: a) (by rw [hst, ho, htv]) (by simp; omega) hXf (put5_blk bx4 (.slice vn.A1 vn.t.rts.length vn.c1) (.slice vn.A2 vn.t.pts.length vn.c2) (.slice vn.A3 vn.t.homes.length vn.c3) (.int .i64 vn.t.nsec) (.int .i64 vn.t.nsig)) hBf
              rw [show (w0 :: a).headD [] = w0 from rfl, HQ.out] at hPI HN
              rw [← htv] at HN
              clear htv
              have hq1 : 1 ≤ q := by (rcases foll_cases hf with h | h | h | h <;> omega)
              clear hXf hBf hX4 hxt4 bx4 bn hb4 hX3 bx3 hR4 hR3 hst
              go_wp2_with fail
              go_roundw
              case rel => exact ⟨k + 1, vn, q, q - 1, by omega, by go_num, rfl, Lib.hid rfl, Lib.hid ⟨fun h => absurd h (by omega), fun _ => hq1⟩, hPI, HN⟩
              case measure => simp [intOf]; omega))

    · have HE : Hid (readT zT 0 0 ls = (v.t, 0, 0)) := Lib.hid (by rw [← HK.out, List.drop_of_length_le (by omega)]; rfl)
      have hbx := hb.blk
      have x0 := hbx.cell 0
      have x1 := hbx.cell 1
      have x2 := hbx.cell 2
      have x3 := hbx.cell 3
      have x4 := hbx.cell 4
      simp only [List.getElem?_toArray, List.getElem?_cons_zero, List.getElem?_cons_succ] at x0 x1 x2 x3 x4
      have hvr := hb.x.tv
      have hsc := hb.sc
      obtain ⟨c, hc⟩ : ∃ c, chkT v.t = c := ⟨_, rfl⟩
      have HC := Lib.hid (rtchkC v hc wr hvr hsc)
      unfold tvA at HC
      clear HK
      by_cases h0 : c = 0
      case neg =>
        have HF : Hid (parT s = (zT, 0, c)) := Lib.hid (by rw [HP.out, HE.out, tend_chk hc h0])
        have hcb : (c != 0) = true := by simpa using h0
        clear hc h0
        go_wp2_with fail
        refine HC.out.mono ?_
        rintro e w5 ⟨rfl, hq5⟩
        have hR5 := hRr.now hq5
        have z0 := hR5.blk.cell 0
        have z1 := hR5.blk.cell 1
        have z2 := hR5.blk.cell 2
        have z3 := hR5.blk.cell 3
        have z4 := hR5.blk.cell 4
        have zf := hR5.blk.free
        simp only [List.getElem?_toArray, List.getElem?_cons_zero, List.getElem?_cons_succ] at z0 z1 z2 z3 z4
        have HB := Lib.hid (put5_bel hR5 (.slice none 0 0) (.slice none 0 0) (.slice none 0 0) (.int .i64 0) (.int .i64 0))
        clear hR5 hRr hR2 x0 x1 x2 x3 x4 hbx hb
        go_wp2_with fail
        exact bodyPost_ret (v := .tuple #[.agg #[.slice none 0 0, .slice none 0 0, .slice none 0 0, .int .i64 0, .int .i64 0], .int .i64 0, .int .i64 c]) (by simp [results, Tryz.results13, go_sem, z0, z1, z2, z3, z4] <;> (try have := HK0.out ()) <;> omega) rfl (tparPost_no HF.out rfl HB.out)
      case pos =>
        subst h0
        have HF : Hid (parT s = (v.t, 0, 0)) := Lib.hid (by rw [HP.out, HE.out, tend_ok hc])
        clear hc
        go_wp2_with fail
        refine HC.out.mono ?_
        rintro e w5 ⟨rfl, hq5⟩
        have hR5 := hRr.now hq5
        have hX5 := hb.x.now hq5
        have hb5 := hbx.now hq5
        clear x0 x1 x2 x3 x4
        have x0 := hb5.cell 0
        have x1 := hb5.cell 1
        have x2 := hb5.cell 2
        have x3 := hb5.cell 3
        have x4 := hb5.cell 4
        simp only [List.getElem?_toArray, List.getElem?_cons_zero, List.getElem?_cons_succ] at x0 x1 x2 x3 x4
        have hrg : w.heap.size < w2.heap.size := hrlt
        have HLV : Hid (TvR (put5 w5 w.heap.size (.slice v.A1 v.t.rts.length v.c1) (.slice v.A2 v.t.pts.length v.c2) (.slice v.A3 v.t.homes.length v.c3) (.int .i64 v.t.nsec) (.int .i64 v.t.nsig)) v) := Lib.hid (hX5.set (Or.inr rfl) hR5.blk (fun b hb => put5_far _ _ _ _ _ _ _ _ hb) (put5_size _ _ _ _ _ _ _)).tv
        have z0 := hR5.blk.cell 0
        have z1 := hR5.blk.cell 1
        have z2 := hR5.blk.cell 2
        have z3 := hR5.blk.cell 3
        have z4 := hR5.blk.cell 4
        have zf := hR5.blk.free
        simp only [List.getElem?_toArray, List.getElem?_cons_zero, List.getElem?_cons_succ] at z0 z1 z2 z3 z4
        have HB := Lib.hid (put5_bel hR5 (.slice v.A1 v.t.rts.length v.c1) (.slice v.A2 v.t.pts.length v.c2) (.slice v.A3 v.t.homes.length v.c3) (.int .i64 v.t.nsec) (.int .i64 v.t.nsig))
        clear hR5 hRr hR2 hbx hb hX5 hb5
        go_wp2_with fail
        exact bodyPost_ret (v := .tuple #[.agg #[.slice v.A1 v.t.rts.length v.c1, .slice v.A2 v.t.pts.length v.c2, .slice v.A3 v.t.homes.length v.c3, .int .i64 v.t.nsec, .int .i64 v.t.nsig], .int .i64 0, .int .i64 0]) (by simp [results, Tryz.results13, go_sem, z0, z1, z2, z3, z4] <;> (try have := HK0.out ()) <;> omega) rfl (⟨v, by rw [HF.out], by rw [HF.out]; rfl, HLV.out, HB.out⟩)
end Go.Proofs.YtlblfblkallnhaaGreatDoor
