/- The reference's lines of words. The reference's line of an element. The reference's lists of names. The reference's conditions on counts and names. -/
import Derived.Test.YtopoknocfoiiaaaGreatDoorPlPrintB
import Derived.Test.YtopoknocfoiiaaaGreatDoorPlApp
import Derived.Test.YtopoknocfoiiaaaGreatDoorPrOne
namespace Go.Proofs.YtopoknocfoiiaaaGreatDoor
set_option linter.unusedVariables false
set_option linter.unusedSimpArgs false
open Go.RowKit
attribute [local go_sem] bs_size bs_get bs_append bs_extract bs_toList
attribute [-go_sem] run_equalIn_agg
set_option maxRecDepth 100000 in
set_option maxHeartbeats 4000000 in
theorem rnm_any (v : LV) (k : Nat) (hk : k < v.l.els.length) (w : World) (hr : LvR w v) : Calls Tryz.prog 18 #[lvA v, .int .i64 k] w fun e w' => e = .returned (.string (bs v.l.els[k].name)) ∧ Below w.heap.size w w' := by
  have hb := Bx.new hr
  have x2 := hb.x2
  obtain ⟨b, off, hA, lb, ho, y0, y1, y2, y3, y4, y5, y6⟩ := hb.rd.r2.elE hk
  have hki : (k : Int) < (v.l.els.length : Int) := by omega
  have hB := hb.bel
  unfold lvA
  rw [hA] at x2 y0 ⊢
  clear y1 y2 y3 y4 y5 y6 ho
  go_enter Tryz.func18, Tryz.ntmps18
  go_wp2_with fail
  go_ret
  exact ⟨rfl, by first | exact hB | (rw [hA] at hB; exact hB)⟩
/-- A row of words of the call's own. -/
def RowP (w : World) (ws : List (List UInt8)) (e : Ending) (w' : World) : Prop := ∃ A c, e = .returned (.slice A ws.length c) ∧ OwnR cS w' w.heap.size 9 (.slice A ws.length c) ws 0 ∧ Below w.heap.size w w'
theorem rdS_free {w : World} {S S' : Nat → Prop} : ∀ {l : List (List UInt8)} {xs : List Value}, RdC cS w S xs l → RdC cS w S' xs l
  | [], _, h => h
  | _ :: _, _, ⟨y, z, h1, h2, h3⟩ => ⟨y, z, h1, h2, rdS_free h3⟩
theorem LowR.ownS {w : World} {base : Nat} {e : TypeId} {v : Value} {l : List (List UInt8)} (h : LowR cS w base e v l) : OwnR cS w base e v l 0 := by
  obtain ⟨xs, h1, h2, _⟩ := h
  exact ⟨xs, h1, rdS_free h2, Nat.zero_le _⟩
theorem strs_one (ys : List Value) (x : List UInt8) {w : World} {S : Nat → Prop} (h : cS.rd w S ys x) : ∀ u ∈ ys, u.oneCell' = true := by
  obtain ⟨rfl, _⟩ := h
  intro u hu
  simp only [List.mem_singleton] at hu
  subst hu
  rfl
set_option maxRecDepth 100000 in
set_option maxHeartbeats 8000000 in
theorem rline_any (us : List (List UInt8)) (A : Option Addr) (cap : Nat) (ns : List Int) (A2 : Option Addr) (cap2 : Nat) (w : World) (hr : RdS cS w (Lt w) A us) (hr2 : RdS cI w (Lt w) A2 ns) (hl : us.length ≤ 1000) (hl2 : ns.length ≤ 1000) :
    Calls Tryz.prog 20 #[.slice A us.length cap, .slice A2 ns.length cap2] w (RowP w (us ++ ns.map Lib.itoa)) := by
  obtain ⟨i0, hi0, hz0, hz1, hz2⟩ := info_parts infoStrT
  have hal := (Below.refl w.heap.size w).alloc (Nat.le_refl _) (.cells #[] 9)
  have hlow : LowR cS (w.alloc (.cells #[] 9)) w.heap.size 9 _ [] := LowR.empty cS w 9
  have hr0 : RdS cS (w.alloc (.cells #[] 9)) (fun b => b < w.heap.size) A us := hr.keep fun p hp => hal.cell hp
  go_enter Tryz.func20, Tryz.ntmps20
  go_wp2_with (at_builtin; go_loud (refine wpList_append_low (c := cS) _ rfl _ _ 22 rfl w.heap.size 9 i0 _ 16 Tryz.underlying22 hi0 hz0 hz1 hz2 rfl (by decide) _ [] (by rfl) hlow A cap us (by rfl) hr0 (fun ys x h => strs_one ys x h) (by simp; omega) (by omega) ?_); intro v1 w1 hlow1 hb1)
  have hown1 := hlow1.ownS
  have hB1 : Below w.heap.size w w1 := hal.trans hb1
  rw [List.nil_append] at hown1
  clear hlow hr0 hlow1 hal hb1
  go_loopw [5, 6] (fun s n wr => ∃ k : Nat, k ≤ ns.length ∧ n = .int .i64 k ∧ OwnR cS wr w.heap.size 9 s (us ++ (ns.take k).map Lib.itoa) 0 ∧ Below w.heap.size w wr) (fun _ n _ => ns.length - (intOf n).toNat)
  case atStart => exact ⟨0, Nat.zero_le _, rfl, by simpa using hown1, hB1⟩
  case round =>
    obtain ⟨k, hk, rfl, hown, hb⟩ := hrel
    clear hown1 hB1
    have hsz := hb.size
    by_cases hlt : k < ns.length
    · have hki : (k : Int) < (ns.length : Int) := by omega
      obtain ⟨b, off, hA, hc⟩ := (hr2.now hb).pick rfl
      obtain ⟨rfl, lb⟩ : A2 = _ ∧ _ := hA (by omega)
      obtain ⟨u, ⟨hu, hn1⟩, y0⟩ := hc k ns[k] (List.getElem?_eq_getElem hlt)
      simp only [List.cons.injEq, and_true] at hu
      subst hu
      have HT : Hid (us ++ (ns.take (k + 1)).map Lib.itoa = us ++ (ns.take k).map Lib.itoa ++ [Lib.itoa ns[k]]) := Lib.hid (by rw [List.take_succ_eq_append_getElem hlt, List.map_append, List.append_assoc]; rfl)
      have hkl : (us ++ (ns.take k).map Lib.itoa).length ≤ 10000 := by simp; omega
      have hil := itoaP_len ns[k] hn1
      clear hc
      generalize ns[k] = n at *
      generalize us ++ (ns.take k).map Lib.itoa = ws at *
      go_wp2_with fail
      refine (rformat_any n _ hn1.1 hn1.2).mono ?_
      rintro e w2 ⟨rfl, rfl⟩
      go_wp2_with (at_builtin; go_loud (refine wpList_append_r (c := cS) _ rfl _ _ 22 rfl w.heap.size 9 i0 _ 16 Tryz.underlying22 hi0 hz0 hz1 hz2 rfl (by decide) _ ws 0 rfl hown [_] (Lib.itoa n) ⟨rfl, by unfold maxLen; omega⟩ (fun u hu => by (simp at hu; subst hu; rfl)) _ rfl (by omega) (by omega) (by omega) ?_); intro v' w5 hown5 hf5 hs5)
      go_roundw
      case rel => exact ⟨k + 1, by omega, by go_num, by rw [HT.out]; exact hown5, hf5.keeps (Nat.le_refl _) hsz hb⟩
      case measure => simp [intOf]; omega
    · have HE : Hid (us ++ (ns.take k).map Lib.itoa = us ++ ns.map Lib.itoa) := Lib.hid (by rw [List.take_of_length_le (by omega)])
      rw [HE.out] at hown
      obtain ⟨A', c', rfl⟩ := hown.form
      have HO := Lib.hid hown
      clear hown HE
      go_wp2_with fail
      go_ret
      exact ⟨A', c', rfl, HO.out, hb⟩
end Go.Proofs.YtopoknocfoiiaaaGreatDoor
namespace Go.Proofs.YtopoknocfoiiaaaGreatDoor
set_option linter.unusedVariables false
set_option linter.unusedSimpArgs false
open Go.RowKit
attribute [local go_sem] bs_size bs_get bs_append bs_extract bs_toList
attribute [-go_sem] run_equalIn_agg
theorem rds_strs {w : World} {g : Nat} {T : TypeId} {us : List (List UInt8)} (h : Blk w g T (us.map fun x => Value.string (bs x)).toArray) (hx : ∀ x ∈ us, x.length ≤ maxLen) : RdS cS w (Lt w) (some ⟨g, 0, none⟩) us := by
  refine fun _ => ⟨g, 0, rfl, h.lt, fun i x hi => ⟨[.string (bs x)], ⟨rfl, hx x (List.mem_of_getElem? hi)⟩, fun j u hu => ?_⟩⟩
  match j, hu with
  | 0, hu =>
    simp only [List.getElem?_cons_zero, Option.some.injEq] at hu
    subst hu
    have e : 0 + i * cS.size + 0 = i := by simp [cS]
    rw [e, h.cell]
    simp [hi]
  | j + 1, hu => simp at hu
theorem OwnR.lower {α : Type} {c : Cod α} {w : World} {base base' B : Nat} {e : TypeId} {v : Value} {l : List α} (h : OwnR c w base' e v l B) (hb : base ≤ base') : OwnR c w base e v l B := by
  obtain ⟨xs, h1, h2, h3⟩ := h
  exact ⟨xs, own_lower h1 hb, h2, h3⟩
set_option maxRecDepth 100000 in
set_option maxHeartbeats 16000000 in
theorem relt_any (v : LV) (x : Elt) (hx : eltB v.l x = true) (ho : eltO x) (w : World) (hr : LvR w v) : Calls Tryz.prog 17 #[lvA v, .agg #[.string (bs x.name), .int .i64 x.kind, .int .i64 x.len, .int .i64 x.grd, .int .i64 x.spd, .int .i64 x.slow, .int .i64 x.sec]] w (RowP w (eltW v.l x)) := by
  obtain ⟨e1, e2, e3, e4, e5, e6, e7⟩ := eltB_iff hx
  obtain ⟨nm, kd, ln, gr, sp, sl, sc⟩ := x
  obtain ⟨ho1, ho2, ho3, ho4, ho5, ho6, ho7⟩ := ho
  dsimp only at *
  obtain ⟨ks, hks⟩ := Int.eq_ofNat_of_zero_le e5.1
  subst hks
  have hksl : ks < v.l.secs.length := by omega
  have hksi : (ks : Int) < (v.l.secs.length : Int) := by omega
  have hb := (Bx.new hr).alloc (.cells #[.string (bs nm), .int .i64 kd, .int .i64 ln, .int .i64 gr, .int .i64 sp, .int .i64 sl, .int .i64 (ks : Int)] 35)
  obtain ⟨b1, o1, hA1, lb1, hos, z0⟩ := hb.rd.r1.elS hksl
  have HSC : scAt v.l (ks : Int) = v.l.secs[ks] := by unfold scAt; rw [Int.toNat_natCast, List.getElem?_eq_getElem hksl]; rfl
  have x1 := hb.x1
  rw [hA1] at x1 z0
  have hB := hb.bel
  rw [hA1] at hB
  have HB := Lib.hid hB
  clear hB
  clear hx hb
  have hkd : kd = 1 ∨ kd = 2 ∨ kd = 3 := by omega
  unfold eltW numsE
  dsimp only
  rw [HSC]
  unfold lvA
  rw [hA1]
  clear HSC e5 e7 e1
  generalize v.l.secs[ks] = sw at *

  by_cases hk2 : kd = 2
  · subst hk2
    have hkw : kwF 2 :: nm :: sw :: List.map Lib.itoa (if (2 : Int) = 2 then [ln, gr, sp, sl] else [ln, gr, sp]) = [pointsW, nm, sw] ++ [ln, gr, sp, sl].map Lib.itoa := rfl
    rw [hkw]
    have HL : Hid (∀ (W : World) (g1 g2 : Nat), Blk W g1 9 #[.string { data := #[112, 111, 105, 110, 116, 115] }, .string (bs nm), .string (bs sw)] → Blk W g2 3 #[.int .i64 ln, .int .i64 gr, .int .i64 sp, .int .i64 sl] → Calls Tryz.prog 20 #[.slice (some ⟨g1, 0, none⟩) 3 3, .slice (some ⟨g2, 0, none⟩) 4 4] W (RowP W ([pointsW, nm, sw] ++ [ln, gr, sp, sl].map Lib.itoa))) := Lib.hid fun W g1 g2 h1 h2 =>
      rline_any [pointsW, nm, sw] (some ⟨g1, 0, none⟩) 3 [ln, gr, sp, sl] (some ⟨g2, 0, none⟩) 4 W (rds_strs h1 (fun x hx => by simp only [List.mem_cons, List.not_mem_nil, or_false] at hx; rcases hx with rfl | rfl | rfl; exact Nat.le_trans (show pointsW.length ≤ 6 by decide) (by unfold maxLen; omega); exact ho1; exact hos)) (rds_ints h2 (fun n hn => by simp only [List.mem_cons, List.not_mem_nil, or_false] at hn; rcases hn with rfl | rfl | rfl | rfl <;> assumption)) (by simp) (by simp)
    clear hkw hkd e6 ho1 ho2 ho3 ho4 ho5 ho6 ho7 hos e2 e3 e4
    go_enter Tryz.func17, Tryz.ntmps17
    go_wp2_with fail
    refine (HL.out _ _ _ ?h1_2 ?h2_2).mono ?h3_2
    case h1_2 => exact (Blk.new _ _ _ _ (by first | rfl | (simp; done))).alloc _
    case h2_2 => exact Blk.new _ _ _ _ (by first | rfl | (simp; done))
    rintro e w5 ⟨A5, c5, rfl, h5, hq5⟩
    have H5 := Lib.hid h5
    have HQ := Lib.hid hq5
    clear h5 hq5 x1 z0
    go_wp2_with fail
    go_ret
    refine ⟨A5, c5, rfl, H5.out.lower (by simp; omega), ?_⟩
    refine HB.out.trans (Below.trans (((Below.refl w.heap.size _).alloc ?_ _).alloc ?_ _) (HQ.out.mono ?_)) <;> (simp only [World.size_alloc]; omega)
  by_cases hk3 : kd = 3
  · subst hk3
    have hkw : kwF 3 :: nm :: sw :: List.map Lib.itoa (if (3 : Int) = 2 then [ln, gr, sp, sl] else [ln, gr, sp]) = [crossW, nm, sw] ++ [ln, gr, sp].map Lib.itoa := rfl
    rw [hkw]
    have HL : Hid (∀ (W : World) (g1 g2 : Nat), Blk W g1 9 #[.string { data := #[99, 114, 111, 115, 115] }, .string (bs nm), .string (bs sw)] → Blk W g2 3 #[.int .i64 ln, .int .i64 gr, .int .i64 sp] → Calls Tryz.prog 20 #[.slice (some ⟨g1, 0, none⟩) 3 3, .slice (some ⟨g2, 0, none⟩) 3 3] W (RowP W ([crossW, nm, sw] ++ [ln, gr, sp].map Lib.itoa))) := Lib.hid fun W g1 g2 h1 h2 =>
      rline_any [crossW, nm, sw] (some ⟨g1, 0, none⟩) 3 [ln, gr, sp] (some ⟨g2, 0, none⟩) 3 W (rds_strs h1 (fun x hx => by simp only [List.mem_cons, List.not_mem_nil, or_false] at hx; rcases hx with rfl | rfl | rfl; exact Nat.le_trans (show crossW.length ≤ 6 by decide) (by unfold maxLen; omega); exact ho1; exact hos)) (rds_ints h2 (fun n hn => by simp only [List.mem_cons, List.not_mem_nil, or_false] at hn; rcases hn with rfl | rfl | rfl <;> assumption)) (by simp) (by simp)
    clear hkw hkd e6 ho1 ho2 ho3 ho4 ho5 ho6 ho7 hos e2 e3 e4 hk2
    go_enter Tryz.func17, Tryz.ntmps17
    go_wp2_with fail
    refine (HL.out _ _ _ ?h1_3 ?h2_3).mono ?h3_3
    case h1_3 => exact (Blk.new _ _ _ _ (by first | rfl | (simp; done))).alloc _
    case h2_3 => exact Blk.new _ _ _ _ (by first | rfl | (simp; done))
    rintro e w5 ⟨A5, c5, rfl, h5, hq5⟩
    have H5 := Lib.hid h5
    have HQ := Lib.hid hq5
    clear h5 hq5 x1 z0
    go_wp2_with fail
    go_ret
    refine ⟨A5, c5, rfl, H5.out.lower (by simp; omega), ?_⟩
    refine HB.out.trans (Below.trans (((Below.refl w.heap.size _).alloc ?_ _).alloc ?_ _) (HQ.out.mono ?_)) <;> (simp only [World.size_alloc]; omega)
  by_cases hk1 : kd = 1
  · subst hk1
    have hkw : kwF 1 :: nm :: sw :: List.map Lib.itoa (if (1 : Int) = 2 then [ln, gr, sp, sl] else [ln, gr, sp]) = [trackW, nm, sw] ++ [ln, gr, sp].map Lib.itoa := rfl
    rw [hkw]
    have HL : Hid (∀ (W : World) (g1 g2 : Nat), Blk W g1 9 #[.string { data := #[116, 114, 97, 99, 107] }, .string (bs nm), .string (bs sw)] → Blk W g2 3 #[.int .i64 ln, .int .i64 gr, .int .i64 sp] → Calls Tryz.prog 20 #[.slice (some ⟨g1, 0, none⟩) 3 3, .slice (some ⟨g2, 0, none⟩) 3 3] W (RowP W ([trackW, nm, sw] ++ [ln, gr, sp].map Lib.itoa))) := Lib.hid fun W g1 g2 h1 h2 =>
      rline_any [trackW, nm, sw] (some ⟨g1, 0, none⟩) 3 [ln, gr, sp] (some ⟨g2, 0, none⟩) 3 W (rds_strs h1 (fun x hx => by simp only [List.mem_cons, List.not_mem_nil, or_false] at hx; rcases hx with rfl | rfl | rfl; exact Nat.le_trans (show trackW.length ≤ 6 by decide) (by unfold maxLen; omega); exact ho1; exact hos)) (rds_ints h2 (fun n hn => by simp only [List.mem_cons, List.not_mem_nil, or_false] at hn; rcases hn with rfl | rfl | rfl <;> assumption)) (by simp) (by simp)
    clear hkw hkd e6 ho1 ho2 ho3 ho4 ho5 ho6 ho7 hos e2 e3 e4 hk2 hk3
    go_enter Tryz.func17, Tryz.ntmps17
    go_wp2_with fail
    refine (HL.out _ _ _ ?h1_1 ?h2_1).mono ?h3_1
    case h1_1 => exact (Blk.new _ _ _ _ (by first | rfl | (simp; done))).alloc _
    case h2_1 => exact Blk.new _ _ _ _ (by first | rfl | (simp; done))
    rintro e w5 ⟨A5, c5, rfl, h5, hq5⟩
    have H5 := Lib.hid h5
    have HQ := Lib.hid hq5
    clear h5 hq5 x1 z0
    go_wp2_with fail
    go_ret
    refine ⟨A5, c5, rfl, H5.out.lower (by simp; omega), ?_⟩
    refine HB.out.trans (Below.trans (((Below.refl w.heap.size _).alloc ?_ _).alloc ?_ _) (HQ.out.mono ?_)) <;> (simp only [World.size_alloc]; omega)
  omega
end Go.Proofs.YtopoknocfoiiaaaGreatDoor
namespace Go.Proofs.YtopoknocfoiiaaaGreatDoor
set_option linter.unusedVariables false
set_option linter.unusedSimpArgs false
open Go.RowKit
attribute [local go_sem] bs_size bs_get bs_append bs_extract bs_toList
attribute [-go_sem] run_equalIn_agg
/-- Above block g, below B. -/
def Sp (g B b : Nat) : Prop := g < b ∧ b < B
theorem sp_of {w : World} {base g : Nat} {e : TypeId} {v : Value} {l : List (List UInt8)} (h : OwnR cS w base e v l 0) (hg : g < base) : ∃ A cap, v = .slice A l.length cap ∧ (l.length ≤ maxLen ∧ l.length ≤ cap) ∧ RdS cS w (Sp g w.heap.size) A l :=
  h.rds (fun b cs hb hbase => ⟨Nat.lt_of_lt_of_le hg hbase, lt_heap hb⟩) (fun b hb => absurd hb.1 (Nat.not_lt_zero _))
theorem sp_set {w : World} {g B : Nat} {A : Option Addr} {l : List (List UInt8)} (h : RdS cS w (Sp g B) A l) {a : Addr} (ha : a.block ≤ g) (u : Value) : RdS cS (w.setCell a u) (Sp g B) A l :=
  h.keep fun p hp => cell_same (Below.heap_setCell w a u p.block (by have := hp.1; omega))
theorem sp_bel {w w' : World} {g B C : Nat} {A : Option Addr} {l : List (List UInt8)} (h : RdS cS w (Sp g B) A l) (hb : Below C w w') (hC : B ≤ C) : RdS cS w' (Sp g B) A l :=
  h.keep fun p hp => hb.cell (by have := hp.2; omega)
theorem sp_lt {w : World} {g B : Nat} {A : Option Addr} {l : List (List UInt8)} (h : RdS cS w (Sp g B) A l) (hB : B ≤ w.heap.size) : RdS cS w (Lt w) A l := h.more fun b hb => Nat.lt_of_lt_of_le hb.2 hB
/-- Three rows of names. -/
def NmsPost (w : World) (l : Lay) (e : Ending) (w' : World) : Prop := ∃ A1 d1 A2 d2 A3 d3, e = .returned (.agg #[.slice A1 l.secs.length d1, .slice A2 l.els.length d2, .slice A3 l.sgs.length d3]) ∧
  RdS cS w' (Lt w') A1 l.secs ∧ RdS cS w' (Lt w') A2 (l.els.map Elt.name) ∧ RdS cS w' (Lt w') A3 (l.sgs.map Sgn.name) ∧ Below w.heap.size w w'
theorem names_end {w wr : World} {v : LV} {s1 s2 s3 : Value} {A1 A2 A3 : Option Addr} {B : Nat} (hb : Bx w wr v) (h1 : RdS cS wr (Sp (w.heap.size + 1 + 1) B) A1 v.l.secs) (h2 : RdS cS wr (Sp (w.heap.size + 1 + 1) B) A2 (v.l.els.map Elt.name)) (h3 : RdS cS wr (Sp (w.heap.size + 1 + 1) B) A3 (v.l.sgs.map Sgn.name)) (hB : B ≤ wr.heap.size) (w5 : World) (hw : w5 = ((wr.setCell ⟨w.heap.size + 1, 0, none⟩ s1).setCell ⟨w.heap.size + 1, 1, none⟩ s2).setCell ⟨w.heap.size + 1, 2, none⟩ s3) :
    RdS cS w5 (Lt w5) A1 v.l.secs ∧ RdS cS w5 (Lt w5) A2 (v.l.els.map Elt.name) ∧ RdS cS w5 (Lt w5) A3 (v.l.sgs.map Sgn.name) ∧ Below w.heap.size w w5 := by
  subst hw
  have hsz : B ≤ (((wr.setCell ⟨w.heap.size + 1, 0, none⟩ s1).setCell ⟨w.heap.size + 1, 1, none⟩ s2).setCell ⟨w.heap.size + 1, 2, none⟩ s3).heap.size := by simpa using hB
  refine ⟨sp_lt (sp_set (sp_set (sp_set h1 (by simp) _) (by simp) _) (by simp) _) hsz, sp_lt (sp_set (sp_set (sp_set h2 (by simp) _) (by simp) _) (by simp) _) hsz, sp_lt (sp_set (sp_set (sp_set h3 (by simp) _) (by simp) _) (by simp) _) hsz, ?_⟩
  exact ((hb.bel.setCell (p := ⟨w.heap.size + 1, 0, none⟩) (by simp) _).setCell (p := ⟨w.heap.size + 1, 1, none⟩) (by simp) _).setCell (p := ⟨w.heap.size + 1, 2, none⟩) (by simp) _
theorem Bx.setc {w0 w : World} {v : LV} (h : Bx w0 w v) (hr : LvR w0 v) {a : Addr} (ha : w0.heap.size < a.block) (u : Value) : Bx w0 (w.setCell a u) v :=
  have hb := h.bel.setCell (Nat.le_of_lt ha) u
  ⟨hb, h.blk.far (Nat.ne_of_lt ha) u, hr.now hb⟩
theorem frm_below {base : Nat} {e : TypeId} {w w' : World} (hf : Frm base e w w') (hb : base ≤ w.heap.size) : Below base w w' := ⟨hf.os, hf.tape, hf.output, hf.size, fun k hk => hf.low k hk (by omega)⟩
set_option maxRecDepth 100000 in
set_option maxHeartbeats 16000000 in
theorem rnames_any (v : LV) (w : World) (hr : LvR w v) (hm1 : v.l.secs.length ≤ 1000) (hm2 : v.l.els.length ≤ 1000) (hm4 : v.l.sgs.length ≤ 1000) : Calls Tryz.prog 63 #[lvA v] w (NmsPost w v.l) := by
  obtain ⟨i0, hi0, hz0, hz1, hz2⟩ := info_parts infoStrT
  have hbx := ((Bx.new hr).alloc (.cells #[.slice none 0 0, .slice none 0 0, .slice none 0 0] 104)).alloc (.cells #[.slice none 0 0, .slice none 0 0, .slice none 0 0] 104)
  have hg2 : Blk (((w.alloc (.cells #[.string (bs v.l.name), .slice v.A1 v.l.secs.length v.c1, .slice v.A2 v.l.els.length v.c2, .slice v.A3 v.l.jts.length v.c3, .slice v.A4 v.l.sgs.length v.c4, .slice v.A5 v.l.bls.length v.c5] 28)).alloc (.cells #[.slice none 0 0, .slice none 0 0, .slice none 0 0] 104)).alloc (.cells #[.slice none 0 0, .slice none 0 0, .slice none 0 0] 104)) (w.heap.size + 1) 104 #[.slice none 0 0, .slice none 0 0, .slice none 0 0] := (Blk.new _ _ _ _ (by simp)).alloc _
  have hg3 : Blk (((w.alloc (.cells #[.string (bs v.l.name), .slice v.A1 v.l.secs.length v.c1, .slice v.A2 v.l.els.length v.c2, .slice v.A3 v.l.jts.length v.c3, .slice v.A4 v.l.sgs.length v.c4, .slice v.A5 v.l.bls.length v.c5] 28)).alloc (.cells #[.slice none 0 0, .slice none 0 0, .slice none 0 0] 104)).alloc (.cells #[.slice none 0 0, .slice none 0 0, .slice none 0 0] 104)) (w.heap.size + 1 + 1) 104 #[.slice none 0 0, .slice none 0 0, .slice none 0 0] := Blk.new _ _ _ _ (by simp)
  have hlow : LowR cS (((w.alloc (.cells #[.string (bs v.l.name), .slice v.A1 v.l.secs.length v.c1, .slice v.A2 v.l.els.length v.c2, .slice v.A3 v.l.jts.length v.c3, .slice v.A4 v.l.sgs.length v.c4, .slice v.A5 v.l.bls.length v.c5] 28)).alloc (.cells #[.slice none 0 0, .slice none 0 0, .slice none 0 0] 104)).alloc (.cells #[.slice none 0 0, .slice none 0 0, .slice none 0 0] 104)) (w.heap.size + 1 + 1 + 1) 9 (.slice none 0 0) [] := ⟨[], World.ownsRow_nil _ _ _ _, rfl, by simp⟩
  have hrs : RdS cS (((w.alloc (.cells #[.string (bs v.l.name), .slice v.A1 v.l.secs.length v.c1, .slice v.A2 v.l.els.length v.c2, .slice v.A3 v.l.jts.length v.c3, .slice v.A4 v.l.sgs.length v.c4, .slice v.A5 v.l.bls.length v.c5] 28)).alloc (.cells #[.slice none 0 0, .slice none 0 0, .slice none 0 0] 104)).alloc (.cells #[.slice none 0 0, .slice none 0 0, .slice none 0 0] 104)) (fun b => b < w.heap.size + 1 + 1 + 1) v.A1 v.l.secs := hbx.rd.r1.more fun b hb => by have h : b < _ := hb; simp only [World.size_alloc] at h; omega
  have hszz : (((w.alloc (.cells #[.string (bs v.l.name), .slice v.A1 v.l.secs.length v.c1, .slice v.A2 v.l.els.length v.c2, .slice v.A3 v.l.jts.length v.c3, .slice v.A4 v.l.sgs.length v.c4, .slice v.A5 v.l.bls.length v.c5] 28)).alloc (.cells #[.slice none 0 0, .slice none 0 0, .slice none 0 0] 104)).alloc (.cells #[.slice none 0 0, .slice none 0 0, .slice none 0 0] 104)).heap.size = w.heap.size + 1 + 1 + 1 := by simp
  unfold lvA
  go_enter Tryz.func63, Tryz.ntmps63
  go_wp2_with (at_builtin; go_loud (refine wpList_append_low (c := cS) _ rfl _ _ 22 rfl (w.heap.size + 1 + 1 + 1) 9 i0 _ 16 Tryz.underlying22 hi0 hz0 hz1 hz2 rfl (by decide) _ [] (by rfl) hlow v.A1 v.c1 v.l.secs (by rfl) hrs (fun ys x h => strs_one ys x h) (by simp; omega) (by omega) ?_); intro v1 w1 hlow1 hb1; have hown1 : OwnR cS w1 (w.heap.size + 1 + 1 + 1) 9 v1 v.l.secs 0 := hlow1.ownS; obtain ⟨A1, d1, rfl⟩ := hown1.form; have hg31 := hg3.below hb1 (by omega); have z0 := hg31.cell 0; have z1 := hg31.free 0; have hbx1 := (hbx.now (by rw [hszz]; exact hb1)).setc hr (a := ⟨w.heap.size + 1 + 1, 0, none⟩) (by simp; omega) (.slice A1 v.l.secs.length d1); have x2 := hbx1.x2; have hsz1 := hb1.size)
  clear hbx hrs hlow hszz
  obtain ⟨A1', d1', hv1, _, hrd1⟩ := sp_of hown1 (Nat.lt_succ_self _)
  simp only [Value.slice.injEq, true_and] at hv1
  obtain ⟨rfl, rfl⟩ := hv1
  have hrd2 := sp_set hrd1 (a := ⟨w.heap.size + 1 + 1, 0, none⟩) (by simp) (.slice A1 v.l.secs.length d1)
  have hg32 := hg31.set 0 (.slice A1 v.l.secs.length d1)
  have hg22 := ((hg2.below hb1 (by omega)).far (p := ⟨w.heap.size + 1 + 1, 0, none⟩) (by simp) (.slice A1 v.l.secs.length d1))
  simp only [List.setIfInBounds_toArray, List.set_cons_zero] at hg32
  obtain ⟨W2, hW2⟩ : ∃ W2, w1.setCell ⟨w.heap.size + 1 + 1, 0, none⟩ (.slice A1 v.l.secs.length d1) = W2 := ⟨_, rfl⟩
  have hs2 : w.heap.size + 1 + 1 + 1 ≤ W2.heap.size := by rw [← hW2]; simpa using hsz1
  rw [show w1.heap.size = W2.heap.size by rw [← hW2]; simp] at hrd2
  rw [hW2] at hrd2 hg32 hg22 hbx1 ⊢
  clear x2 z0 z1 hb1 hg31 hg2 hg3 hlow1 hown1 hrd1 hsz1 hW2
  go_loopw [18] (fun n wr => ∃ (k : Nat) (s2 : Value), k ≤ v.l.els.length ∧ n = .int .i64 k ∧ Bx w wr v ∧ Blk wr (w.heap.size + 1) 104 #[.slice none 0 0, .slice none 0 0, .slice none 0 0] ∧ Blk wr (w.heap.size + 1 + 1) 104 #[.slice A1 v.l.secs.length d1, s2, .slice none 0 0] ∧ RdS cS wr (Sp (w.heap.size + 1 + 1) W2.heap.size) A1 v.l.secs ∧ OwnR cS wr W2.heap.size 9 s2 ((v.l.els.take k).map Elt.name) 0 ∧ W2.heap.size ≤ wr.heap.size) (fun n _ => v.l.els.length - (intOf n).toNat)
  case atStart => exact ⟨0, .slice none 0 0, Nat.zero_le _, rfl, hbx1, hg22, hg32, hrd2, OwnR.nil _ _ _ _ (Nat.zero_le _), Nat.le_refl _⟩
  case round =>
    obtain ⟨k, s2, hk, rfl, hb, hg2, hg3, hr1, hown, hsz⟩ := hrel
    clear hbx1 hg22 hg32 hrd2
    by_cases hlt : k < v.l.els.length
    · have hki : (k : Int) < (v.l.els.length : Int) := by omega
      obtain ⟨b, off, hA, lb, ho, y0, y1, y2, y3, y4, y5, y6⟩ := hb.rd.r2.elE hlt
      have HT := Lib.hid (map_take Elt.name hlt)
      have hkl : ((v.l.els.take k).map Elt.name).length ≤ 10000 := by simp; omega
      have hba := (hb.alloc (.cells #[.string (bs v.l.els[k].name), .int .i64 v.l.els[k].kind, .int .i64 v.l.els[k].len, .int .i64 v.l.els[k].grd, .int .i64 v.l.els[k].spd, .int .i64 v.l.els[k].slow, .int .i64 v.l.els[k].sec] 35))
      have hga := hg3.alloc (.cells #[.string (bs v.l.els[k].name), .int .i64 v.l.els[k].kind, .int .i64 v.l.els[k].len, .int .i64 v.l.els[k].grd, .int .i64 v.l.els[k].spd, .int .i64 v.l.els[k].slow, .int .i64 v.l.els[k].sec] 35)
      have hg2a := hg2.alloc (.cells #[.string (bs v.l.els[k].name), .int .i64 v.l.els[k].kind, .int .i64 v.l.els[k].len, .int .i64 v.l.els[k].grd, .int .i64 v.l.els[k].spd, .int .i64 v.l.els[k].slow, .int .i64 v.l.els[k].sec] 35)
      have howna := hown.alloc (.cells #[.string (bs v.l.els[k].name), .int .i64 v.l.els[k].kind, .int .i64 v.l.els[k].len, .int .i64 v.l.els[k].grd, .int .i64 v.l.els[k].spd, .int .i64 v.l.els[k].slow, .int .i64 v.l.els[k].sec] 35)
      have hr1a := sp_bel hr1 ((Below.refl wr.heap.size wr).alloc (Nat.le_refl _) (.cells #[.string (bs v.l.els[k].name), .int .i64 v.l.els[k].kind, .int .i64 v.l.els[k].len, .int .i64 v.l.els[k].grd, .int .i64 v.l.els[k].spd, .int .i64 v.l.els[k].slow, .int .i64 v.l.els[k].sec] 35)) hsz
      have z1 := hga.cell 1
      have hon := ho.1
      obtain ⟨S2, D2, rfl⟩ := hown.form
      rw [hA]
      clear hA ho hown hb hg3 hg2 hr1
      generalize v.l.els[k] = q at *
      generalize (v.l.els.take k).map Elt.name = ws at *
      go_wp2_with (at_builtin; go_loud (refine wpList_append_r (c := cS) _ rfl _ _ 22 rfl W2.heap.size 9 i0 _ 16 Tryz.underlying22 hi0 hz0 hz1 hz2 rfl (by decide) _ ws 0 rfl howna [_] q.name ⟨rfl, hon⟩ (fun u hu => by (simp at hu; subst hu; rfl)) _ (by first | rfl | simp [Act.eval]) (by omega) (by omega) (by simp; omega) ?_); intro v' w5 hown5 hf5 hs5; obtain ⟨S3, D3, rfl⟩ := hown5.form; have hg5 := hf5.blk hga (by decide); have z5 := hg5.cell 1; have z6 := hg5.free 1)
      clear z1 z5 z6
      rw [show (ws ++ [q.name]).length = ws.length + 1 by simp] at hown5
      have hbw : Bx w w5 v := ⟨hf5.keeps (by omega) (by have := hba.bel.size; omega) hba.bel, hf5.blk hba.blk (by decide), hr.now (hf5.keeps (by omega) (by have := hba.bel.size; omega) hba.bel)⟩
      have hlow5 := frm_below hf5 (by simp only [World.size_alloc]; omega)
      go_roundw
      case rel => exact ⟨k + 1, _, by omega, by go_num, hbw.setc hr (a := ⟨w.heap.size + 1 + 1, 1, none⟩) (by simp; omega) _, (hf5.blk hg2a (by decide)).far (p := ⟨w.heap.size + 1 + 1, 1, none⟩) (by simp) _, by simpa using hg5.set 1 _, sp_set (sp_bel hr1a hlow5 (Nat.le_refl _)) (by simp) _, by rw [HT.out]; exact hown5.set _ _ _ _ _ hg5 (by decide) (Nat.zero_le _), by simp only [World.size_alloc, World.size_setCell] at hs5 ⊢; omega⟩
      case measure => simp [intOf]; omega
    · rw [List.take_of_length_le (by omega)] at hown
      obtain ⟨A2, d2, rfl, _, hrd2⟩ := sp_of (g := w.heap.size + 1 + 1) hown (by omega)
      rw [List.length_map] at hg3
      have hrd1 : RdS cS wr (Sp (w.heap.size + 1 + 1) wr.heap.size) A1 v.l.secs := hr1.more fun b hb => ⟨hb.1, Nat.lt_of_lt_of_le hb.2 hsz⟩
      have x4 := hb.x4
      clear hr1 hown hk
      go_wp2_with fail
      clear hlt x4
      obtain ⟨W3, hW3⟩ : ∃ W3, wr = W3 := ⟨_, rfl⟩
      have hs3 : w.heap.size + 1 + 1 + 1 ≤ W3.heap.size := by rw [← hW3]; omega
      rw [hW3] at hb hg2 hg3 hrd1 hrd2 ⊢
      clear hsz hW3 hs2
      go_loopw [33] (fun n wr => ∃ (k : Nat) (s3 : Value), k ≤ v.l.sgs.length ∧ n = .int .i64 k ∧ Bx w wr v ∧ Blk wr (w.heap.size + 1) 104 #[.slice none 0 0, .slice none 0 0, .slice none 0 0] ∧ Blk wr (w.heap.size + 1 + 1) 104 #[.slice A1 v.l.secs.length d1, .slice A2 v.l.els.length d2, s3] ∧ RdS cS wr (Sp (w.heap.size + 1 + 1) W3.heap.size) A1 v.l.secs ∧ RdS cS wr (Sp (w.heap.size + 1 + 1) W3.heap.size) A2 (v.l.els.map Elt.name) ∧ OwnR cS wr W3.heap.size 9 s3 ((v.l.sgs.take k).map Sgn.name) 0 ∧ W3.heap.size ≤ wr.heap.size) (fun n _ => v.l.sgs.length - (intOf n).toNat)
      case atStart => exact ⟨0, .slice none 0 0, Nat.zero_le _, rfl, hb, hg2, hg3, hrd1, hrd2, OwnR.nil _ _ _ _ (Nat.zero_le _), Nat.le_refl _⟩
      case round =>
        clear hb hg2 hg3 hrd1 hrd2
        obtain ⟨k, s3, hk, rfl, hb, hg2, hg3, hr1, hr2, hown, hsz⟩ := hrel
        by_cases hlt : k < v.l.sgs.length
        · have hki : (k : Int) < (v.l.sgs.length : Int) := by omega
          obtain ⟨b, off, hA, lb, ho, y0, y1, y2, y3⟩ := hb.rd.r4.elG hlt
          have HT := Lib.hid (map_take Sgn.name hlt)
          have hkl : ((v.l.sgs.take k).map Sgn.name).length ≤ 10000 := by simp; omega
          have hba := (hb.alloc (.cells #[.string (bs v.l.sgs[k].name), .int .i64 v.l.sgs[k].pos.el, .int .i64 v.l.sgs[k].pos.sd, .int .i64 v.l.sgs[k].ovl] 41))
          have hga := hg3.alloc (.cells #[.string (bs v.l.sgs[k].name), .int .i64 v.l.sgs[k].pos.el, .int .i64 v.l.sgs[k].pos.sd, .int .i64 v.l.sgs[k].ovl] 41)
          have hg2a := hg2.alloc (.cells #[.string (bs v.l.sgs[k].name), .int .i64 v.l.sgs[k].pos.el, .int .i64 v.l.sgs[k].pos.sd, .int .i64 v.l.sgs[k].ovl] 41)
          have howna := hown.alloc (.cells #[.string (bs v.l.sgs[k].name), .int .i64 v.l.sgs[k].pos.el, .int .i64 v.l.sgs[k].pos.sd, .int .i64 v.l.sgs[k].ovl] 41)
          have hr1a := sp_bel hr1 ((Below.refl wr.heap.size wr).alloc (Nat.le_refl _) (.cells #[.string (bs v.l.sgs[k].name), .int .i64 v.l.sgs[k].pos.el, .int .i64 v.l.sgs[k].pos.sd, .int .i64 v.l.sgs[k].ovl] 41)) hsz
          have hr2a := sp_bel hr2 ((Below.refl wr.heap.size wr).alloc (Nat.le_refl _) (.cells #[.string (bs v.l.sgs[k].name), .int .i64 v.l.sgs[k].pos.el, .int .i64 v.l.sgs[k].pos.sd, .int .i64 v.l.sgs[k].ovl] 41)) hsz
          have z1 := hga.cell 2
          have hon := ho.1
          obtain ⟨S2, D2, rfl⟩ := hown.form
          rw [hA]
          clear hA ho hown hb hg3 hg2 hr1 hr2
          generalize v.l.sgs[k] = q at *
          generalize (v.l.sgs.take k).map Sgn.name = ws at *
          go_wp2_with (at_builtin; go_loud (refine wpList_append_r (c := cS) _ rfl _ _ 22 rfl W3.heap.size 9 i0 _ 16 Tryz.underlying22 hi0 hz0 hz1 hz2 rfl (by decide) _ ws 0 rfl howna [_] q.name ⟨rfl, hon⟩ (fun u hu => by (simp at hu; subst hu; rfl)) _ (by first | rfl | simp [Act.eval]) (by omega) (by omega) (by simp; omega) ?_); intro v' w5 hown5 hf5 hs5; obtain ⟨S3, D3, rfl⟩ := hown5.form; have hg5 := hf5.blk hga (by decide); have z5 := hg5.cell 2; have z6 := hg5.free 2)
          clear z1 z5 z6
          rw [show (ws ++ [q.name]).length = ws.length + 1 by simp] at hown5
          have hbw : Bx w w5 v := ⟨hf5.keeps (by omega) (by have := hba.bel.size; omega) hba.bel, hf5.blk hba.blk (by decide), hr.now (hf5.keeps (by omega) (by have := hba.bel.size; omega) hba.bel)⟩
          have hlow5 := frm_below hf5 (by simp only [World.size_alloc]; omega)
          go_roundw
          case rel => exact ⟨k + 1, _, by omega, by go_num, hbw.setc hr (a := ⟨w.heap.size + 1 + 1, 2, none⟩) (by simp; omega) _, (hf5.blk hg2a (by decide)).far (p := ⟨w.heap.size + 1 + 1, 2, none⟩) (by simp) _, by simpa using hg5.set 2 _, sp_set (sp_bel hr1a hlow5 (Nat.le_refl _)) (by simp) _, sp_set (sp_bel hr2a hlow5 (Nat.le_refl _)) (by simp) _, by rw [HT.out]; exact hown5.set _ _ _ _ _ hg5 (by decide) (Nat.zero_le _), by simp only [World.size_alloc, World.size_setCell] at hs5 ⊢; omega⟩
          case measure => simp [intOf]; omega
        · rw [List.take_of_length_le (by omega)] at hown
          obtain ⟨A3, d3, rfl, _, hrd3⟩ := sp_of (g := w.heap.size + 1 + 1) hown (by omega)
          rw [List.length_map] at hg3
          have hrd1 : RdS cS wr (Sp (w.heap.size + 1 + 1) wr.heap.size) A1 v.l.secs := hr1.more fun b hb => ⟨hb.1, Nat.lt_of_lt_of_le hb.2 hsz⟩
          have hrd2 : RdS cS wr (Sp (w.heap.size + 1 + 1) wr.heap.size) A2 (v.l.els.map Elt.name) := hr2.more fun b hb => ⟨hb.1, Nat.lt_of_lt_of_le hb.2 hsz⟩
          have HF := Lib.hid (names_end (s1 := .slice A1 v.l.secs.length d1) (s2 := .slice A2 v.l.els.length d2) (s3 := .slice A3 v.l.sgs.length d3) hb hrd1 hrd2 hrd3 (Nat.le_refl _))
          have a0 := hg3.cell 0
          have a1 := hg3.cell 1
          have a2 := hg3.cell 2
          have b0 := hg2.cell 0
          have b1 := hg2.cell 1
          have b2 := hg2.cell 2
          have c0 := hg2.free 0
          have c1 := hg2.free 1
          have c2 := hg2.free 2
          clear hrd1 hrd2 hrd3 hr1 hr2 hown hk
          have hgf : Blk (((wr.setCell ⟨w.heap.size + 1, 0, none⟩ (.slice A1 v.l.secs.length d1)).setCell ⟨w.heap.size + 1, 1, none⟩ (.slice A2 v.l.els.length d2)).setCell ⟨w.heap.size + 1, 2, none⟩ (.slice A3 v.l.sgs.length d3)) (w.heap.size + 1) 104 #[.slice A1 v.l.secs.length d1, .slice A2 v.l.els.length d2, .slice A3 v.l.sgs.length d3] := by simpa using ((hg2.set 0 (.slice A1 v.l.secs.length d1)).set 1 (.slice A2 v.l.els.length d2)).set 2 (.slice A3 v.l.sgs.length d3)
          go_wp2_with fail
          try simp only [Exit.inBlock, Exit.then]
          refine bodyPost_ret (results_cell_row (P := Tryz.prog) rfl _ _ (w.heap.size + 1) 104 #[.slice A1 v.l.secs.length d1, .slice A2 v.l.els.length d2, .slice A3 v.l.sgs.length d3] (0, 0) _ (by rfl) hgf Tryz.underlying104 rfl (by kernel_rfl)) rfl ?_
          exact ⟨A1, d1, A2, d2, A3, d3, rfl, HF.out _ rfl⟩
end Go.Proofs.YtopoknocfoiiaaaGreatDoor
namespace Go.Proofs.YtopoknocfoiiaaaGreatDoor
set_option linter.unusedVariables false
set_option linter.unusedSimpArgs false
open Go.RowKit
attribute [local go_sem] bs_size bs_get bs_append bs_extract bs_toList
attribute [-go_sem] run_equalIn_agg
section
variable {P : Program} {α : Type} {c : Cod α}
/-- A whole slice is appended, as a step of a region. -/
theorem step_append_low {w : World} {ops : Array Oper} {o : Oper} {a : Act} {K : Act → World → Prop} {Q : Exit → Act → World → Prop} {E : Prop} (hgd : o.guard = none) (s x : Operand) (t : TypeId)
    (ho : o.op = .call { callee := .builtin .append, args := #[s, x], argTypes := #[t, t] })
    (base : Nat) (e : TypeId) (i : TypeInfo) (z : Value) (bytes : Nat) (ht : P.underlying t = some (.slice e)) (hi : P.info? e = some i) (hz : i.zero = some z) (hsize : i.size = c.size) (hby : i.bytes = bytes) (hzs : z.cells.size = c.size) (hc : 0 < c.size)
    (v : Value) (l : List α) (hs : a.eval s = v) (hown : LowR c w base e v l) (A : Option Addr) (k n2 : Nat) (l2 : List α) (hn2 : n2 = l2.length) (hx : a.eval x = .slice A n2 k) (hr : RdS c w (fun b => b < base) A l2)
    (hone : ∀ (ys : List Value) (x : α), c.rd w (fun b => b < base) ys x → ∀ u ∈ ys, u.oneCell' = true) (hlen : l.length + l2.length ≤ 100000) (hbl : bytes ≤ 1000)
    (h : ∀ v' w', LowR c w' base e v' (l ++ l2) → Below base w w' → K (a.put o.dst v') w') : if Region.wanted o (yielded ops a.tmps) = true then Oper.wp P o a w K Q else E := by
  have hw : Region.wanted o (yielded ops a.tmps) = true := by simp [Region.wanted, hgd]
  rw [if_pos hw]
  subst hn2
  obtain ⟨xs, h1, h2, hbase⟩ := hown
  cases A with
  | none =>
    have hl2 : l2 = [] := by
      cases l2 with
      | nil => rfl
      | cons y r => obtain ⟨b, off, h3, _⟩ := hr (by simp); cases h3
    subst hl2
    have hrun := run_app_nil (P := P) w base t o.type e i c.size ht hi v l.length xs h1 k
    unfold Oper.wp execOp
    simp only [List.length_nil] at hx
    simp only [ho, resolve, invoke, builtin, Sem.run_bind, Sem.run_pure, Result.andThen_ok, List.map_toArray, List.map_cons, List.map_nil, hs, hx, hrun]
    exact h v w (by rw [List.append_nil]; exact ⟨xs, h1, h2, hbase⟩) (Below.refl _ _)
  | some ad =>
    obtain ⟨news, h3, h4⟩ : ∃ news, RdC c w (fun b => b < base) news l2 ∧ ∀ (j : Nat) (u : Value), news[j]? = some u → w.cell? (ad.add j) = some u := by
      cases l2 with
      | nil => exact ⟨[], rfl, fun j u hu => by simp at hu⟩
      | cons y r =>
        obtain ⟨b, off, h5, _⟩ := hr (by simp)
        simp only [Option.some.injEq] at h5
        subst h5
        obtain ⟨news, h6, h7⟩ := hr.cells
        refine ⟨news, h6, fun j u hu => ?_⟩
        have : (⟨b, off, none⟩ : Addr).add j = ⟨b, off + j, none⟩ := by
          unfold Addr.add
          split
          · rename_i h0; subst h0; rfl
          · rfl
        rw [this]
        exact h7 j u hu
    obtain ⟨v', w', hrun, h5, h6, _⟩ := own_append (P := P) w base t o.type e i z c.size bytes ht hi hz hsize hby hzs hc v l.length xs h1 ad l2.length k news h3.len h4 (h3.one hone)
      (by unfold maxLen; omega) (Nat.le_trans (Nat.mul_le_mul (show l.length + l2.length ≤ 1000000 by omega) hbl) (by omega)) hbase
    have hf := frm_of h1 h6
    have hb : Below base w w' := ⟨hf.os, hf.tape, hf.output, hf.size, fun k hk => hf.low k hk (by omega)⟩
    unfold Oper.wp execOp
    simp only [ho, resolve, invoke, builtin, Sem.run_bind, Sem.run_pure, Result.andThen_ok, List.map_toArray, List.map_cons, List.map_nil, hs, hx, hrun]
    refine h v' w' ⟨xs ++ news, by rw [List.length_append]; exact h5, ?_, Nat.le_trans hbase hf.size⟩ hb
    exact (h2.app h3).keep fun p hp => cell_same (hb.block _ hp)
theorem LowR.drew {w : World} {base : Nat} {e : TypeId} {v : Value} {l : List α} (h : LowR c w base e v l) : LowR c w.drew base e v l := by
  obtain ⟨xs, h1, h2, h3⟩ := h
  exact ⟨xs, h1, h2.keep fun p _ => rfl, h3⟩
end
theorem low_one {w : World} {g base : Nat} {T : TypeId} {x : List UInt8} (h : Blk w g T #[.string (bs x)]) (hb : base ≤ g) (hx : x.length ≤ maxLen) : LowR cS w base T (.slice (some ⟨g, 0, none⟩) 1 1) [x] :=
  ⟨[.string (bs x)], ⟨by simp [cS], Or.inr ⟨g, 1, _, rfl, hb, h, Nat.le_refl _, by unfold maxLen; omega, by simp [cS], by simp [cS]⟩⟩, ⟨[.string (bs x)], [], rfl, ⟨rfl, hx⟩, rfl⟩, Nat.le_trans hb (Nat.le_of_lt h.lt)⟩
def nmdC (l : Lay) : Int := if cntB l = false then 2 else nmC l
theorem nmd_2 {l : Lay} (h : cntB l = false) : nmdC l = 2 := by unfold nmdC; rw [if_pos h]
theorem nmd_3 {l : Lay} (h : cntB l = true) (h1 : nmsB l = false) : nmdC l = 3 := by unfold nmdC nmC; rw [if_neg (by simp [h]), if_pos h1]
theorem nmd_8 {l : Lay} (h : cntB l = true) (h1 : nmsB l = true) (h2 : difB l = false) : nmdC l = 8 := by unfold nmdC nmC; rw [if_neg (by simp [h]), if_neg (by simp [h1]), if_pos h2]
theorem nmd_0 {l : Lay} (h : cntB l = true) (h1 : nmsB l = true) (h2 : difB l = true) : nmdC l = 0 := by unfold nmdC nmC; rw [if_neg (by simp [h]), if_neg (by simp [h1]), if_neg (by simp [h2])]
def allN (l : Lay) : List (List UInt8) := (([l.name] ++ l.secs) ++ l.els.map Elt.name) ++ l.sgs.map Sgn.name
theorem allN_nms (l : Lay) : (allN l).all nameB = nmsB l := by simp [allN, nmsB, List.all_append, List.all_map, Function.comp_def, Bool.and_assoc]
/-- What is known in the region that joins the names. -/
def NS (w : World) (v : LV) (g : Nat) (A1 A2 A3 : Option Addr) (d1 d2 d3 : Nat) (W : World) : Prop :=
  W.cell? ⟨w.heap.size, 0, none⟩ = some (.string (bs v.l.name)) ∧ W.cell? ⟨g, 0, none⟩ = some (.slice A1 v.l.secs.length d1) ∧ W.cell? ⟨g, 1, none⟩ = some (.slice A2 v.l.els.length d2) ∧ W.cell? ⟨g, 2, none⟩ = some (.slice A3 v.l.sgs.length d3) ∧
  (Bx w W v ∧ Blk W g 104 #[.slice A1 v.l.secs.length d1, .slice A2 v.l.els.length d2, .slice A3 v.l.sgs.length d3] ∧ RdS cS W (fun b => b < g + 1) A1 v.l.secs ∧ RdS cS W (fun b => b < g + 1) A2 (v.l.els.map Elt.name) ∧ RdS cS W (fun b => b < g + 1) A3 (v.l.sgs.map Sgn.name) ∧ w.heap.size < g)
section
variable {w W W' : World} {v : LV} {g : Nat} {A1 A2 A3 : Option Addr} {d1 d2 d3 : Nat}
theorem NS.mk (h : Bx w W v) (hg : Blk W g 104 #[.slice A1 v.l.secs.length d1, .slice A2 v.l.els.length d2, .slice A3 v.l.sgs.length d3]) (h1 : RdS cS W (fun b => b < g + 1) A1 v.l.secs) (h2 : RdS cS W (fun b => b < g + 1) A2 (v.l.els.map Elt.name)) (h3 : RdS cS W (fun b => b < g + 1) A3 (v.l.sgs.map Sgn.name)) (hw : w.heap.size < g) : NS w v g A1 A2 A3 d1 d2 d3 W :=
  ⟨h.x0, hg.cell 0, hg.cell 1, hg.cell 2, h, hg, h1, h2, h3, hw⟩
theorem NS.all (h : NS w v g A1 A2 A3 d1 d2 d3 W) : Bx w W v ∧ Blk W g 104 #[.slice A1 v.l.secs.length d1, .slice A2 v.l.els.length d2, .slice A3 v.l.sgs.length d3] ∧ RdS cS W (fun b => b < g + 1) A1 v.l.secs ∧ RdS cS W (fun b => b < g + 1) A2 (v.l.els.map Elt.name) ∧ RdS cS W (fun b => b < g + 1) A3 (v.l.sgs.map Sgn.name) ∧ w.heap.size < g := h.2.2.2.2
theorem NS.now (hr : LvR w v) (h : NS w v g A1 A2 A3 d1 d2 d3 W) (hb : Below (g + 1) W W') : NS w v g A1 A2 A3 d1 d2 d3 W' := by
  obtain ⟨h0, hg, h1, h2, h3, hw⟩ := h.all
  have hB : Below w.heap.size w W' := h0.bel.trans (hb.mono (by omega))
  exact NS.mk ⟨hB, h0.blk.below hb (by omega), hr.now hB⟩ (hg.below hb (by omega)) (h1.keep fun p hp => hb.cell hp) (h2.keep fun p hp => hb.cell hp) (h3.keep fun p hp => hb.cell hp) hw
theorem NS.le (h : NS w v g A1 A2 A3 d1 d2 d3 W) : g + 1 ≤ W.heap.size := h.all.2.1.lt
theorem NS.drew (hr : LvR w v) (h : NS w v g A1 A2 A3 d1 d2 d3 W) : NS w v g A1 A2 A3 d1 d2 d3 W.drew := h.now hr (Below.refl _ _).drew
theorem NS.alloc (hr : LvR w v) (h : NS w v g A1 A2 A3 d1 d2 d3 W) (o : Obj) : NS w v g A1 A2 A3 d1 d2 d3 (W.alloc o) := h.now hr ((Below.refl _ _).alloc h.le o)
theorem NS.more (hr : LvR w v) (h : NS w v g A1 A2 A3 d1 d2 d3 W) (hb : Below W.heap.size W W') : NS w v g A1 A2 A3 d1 d2 d3 W' := h.now hr (hb.mono h.le)
theorem NS.r1 (h : NS w v g A1 A2 A3 d1 d2 d3 W) : RdS cS W (Lt W) A1 v.l.secs := h.all.2.2.1.more fun b hb => Nat.lt_of_lt_of_le hb h.le
theorem NS.r2 (h : NS w v g A1 A2 A3 d1 d2 d3 W) : RdS cS W (Lt W) A2 (v.l.els.map Elt.name) := h.all.2.2.2.1.more fun b hb => Nat.lt_of_lt_of_le hb h.le
theorem NS.r3 (h : NS w v g A1 A2 A3 d1 d2 d3 W) : RdS cS W (Lt W) A3 (v.l.sgs.map Sgn.name) := h.all.2.2.2.2.1.more fun b hb => Nat.lt_of_lt_of_le hb h.le
end
theorem textsC {l : List (List UInt8)} {n : Nat} (hn : n = l.length) {d : Bool} (hd : decide l.Nodup = d) (A : Option Addr) (cap : Nat) (w : World) (hr : RdS cS w (Lt w) A l) (hl : l.length ≤ maxLen) : Calls Tryz.prog 65 #[.slice A n cap] w fun e w' => e = .returned (.bool (!d)) ∧ Below w.heap.size w w' := by
  subst hn hd
  exact (texts_any l A cap w hr hl).mono fun e w' h => ⟨h.1, h.2.below⟩
theorem rnameC {s : List UInt8} {b : Bool} (h : nameB s = b) (w : World) (hs : s.length ≤ maxLen) : Calls Tryz.prog 64 #[.string (bs s)] w fun e w' => e = .returned (.bool b) ∧ w = w' := h ▸ rname_any s w hs
set_option maxRecDepth 100000 in
set_option maxHeartbeats 16000000 in
theorem rnamed_any (v : LV) (w : World) (hr : LvR w v) : Calls Tryz.prog 40 #[lvA v] w fun e w' => e = .returned (.int .i64 (nmdC v.l)) ∧ Below w.heap.size w w' := by
  have hb0 := Bx.new hr
  have hn1 := hr.n1.1
  have hn2 := hr.n2.1
  have hn4 := hr.n4.1
  have hn5 := hr.n5.1
  unfold maxLen at hn1 hn2 hn4 hn5
  have HC : Hid (cntB v.l = (inB v.l.els.length 1 32 && (inB v.l.secs.length 1 24 && (decide (v.l.sgs.length ≤ 20) && decide (v.l.bls.length ≤ 24))))) := Lib.hid rfl
  by_cases q0 : (v.l.els.length : Int) < 1
  case pos =>
    have HX : Hid (nmdC v.l = 2) := Lib.hid (nmd_2 (by rw [HC.out]; simp only [inB, Bool.and_eq_false_iff, decide_eq_false_iff_not]; omega))
    have hB := hb0.bel
    clear HC hb0
    unfold lvA
    go_enter Tryz.func40, Tryz.ntmps40
    go_wp2_with fail
    go_ret
    exact ⟨ret_iL HX.out.symm, hB⟩
  by_cases q1 : (32 : Int) < v.l.els.length
  case pos =>
    have HX : Hid (nmdC v.l = 2) := Lib.hid (nmd_2 (by rw [HC.out]; simp only [inB, Bool.and_eq_false_iff, decide_eq_false_iff_not]; omega))
    have hB := hb0.bel
    clear HC hb0
    unfold lvA
    go_enter Tryz.func40, Tryz.ntmps40
    go_wp2_with fail
    go_ret
    exact ⟨ret_iL HX.out.symm, hB⟩
  by_cases q2 : (v.l.secs.length : Int) < 1
  case pos =>
    have HX : Hid (nmdC v.l = 2) := Lib.hid (nmd_2 (by rw [HC.out]; simp only [inB, Bool.and_eq_false_iff, decide_eq_false_iff_not]; omega))
    have hB := hb0.bel
    clear HC hb0
    unfold lvA
    go_enter Tryz.func40, Tryz.ntmps40
    go_wp2_with fail
    go_ret
    exact ⟨ret_iL HX.out.symm, hB⟩
  by_cases q3 : (24 : Int) < v.l.secs.length
  case pos =>
    have HX : Hid (nmdC v.l = 2) := Lib.hid (nmd_2 (by rw [HC.out]; simp only [inB, Bool.and_eq_false_iff, decide_eq_false_iff_not]; omega))
    have hB := hb0.bel
    clear HC hb0
    unfold lvA
    go_enter Tryz.func40, Tryz.ntmps40
    go_wp2_with fail
    go_ret
    exact ⟨ret_iL HX.out.symm, hB⟩
  by_cases q4 : (20 : Int) < v.l.sgs.length
  case pos =>
    have HX : Hid (nmdC v.l = 2) := Lib.hid (nmd_2 (by rw [HC.out]; simp only [inB, Bool.and_eq_false_iff, decide_eq_false_iff_not]; omega))
    have hB := hb0.bel
    clear HC hb0
    unfold lvA
    go_enter Tryz.func40, Tryz.ntmps40
    go_wp2_with fail
    go_ret
    exact ⟨ret_iL HX.out.symm, hB⟩
  by_cases q5 : (24 : Int) < v.l.bls.length
  case pos =>
    have HX : Hid (nmdC v.l = 2) := Lib.hid (nmd_2 (by rw [HC.out]; simp only [inB, Bool.and_eq_false_iff, decide_eq_false_iff_not]; omega))
    have hB := hb0.bel
    clear HC hb0
    unfold lvA
    go_enter Tryz.func40, Tryz.ntmps40
    go_wp2_with fail
    go_ret
    exact ⟨ret_iL HX.out.symm, hB⟩
  have hcn : cntB v.l = true := by rw [HC.out]; simp only [inB, Bool.and_eq_true, decide_eq_true_eq]; omega
  have H3 := Lib.hid fun h => nmd_3 (l := v.l) hcn h
  have H8 := Lib.hid fun h1 h2 => nmd_8 (l := v.l) hcn h1 h2
  have H0 := Lib.hid fun h1 h2 => nmd_0 (l := v.l) hcn h1 h2
  have HNM := Lib.hid (rnames_any v)
  have HAL := Lib.hid (allN_nms v.l)
  have hnl := hr.nm
  obtain ⟨i0, hi0, hz0, hz1, hz2⟩ := info_parts infoStrT
  have x0 := hb0.x0
  have x1 := hb0.x1
  have x2 := hb0.x2
  have x3 := hb0.x3
  have x4 := hb0.x4
  have x5 := hb0.x5
  clear hcn HC
  unfold lvA at HNM ⊢
  go_enter Tryz.func40, Tryz.ntmps40
  go_wp2_with fail
  refine (HNM.out _ hb0.rd (by omega) (by omega) (by omega)).mono ?_
  rintro e w1 ⟨A1, d1, A2, d2, A3, d3, rfl, hr1, hr2, hr3, hq⟩
  have hb1 := hb0.now hq
  have hns : NS w v w1.heap.size A1 A2 A3 d1 d2 d3 (w1.alloc (.cells #[.slice A1 v.l.secs.length d1, .slice A2 v.l.els.length d2, .slice A3 v.l.sgs.length d3] 104)) := by
    have hal := (Below.refl w1.heap.size w1).alloc (Nat.le_refl _) (.cells #[.slice A1 v.l.secs.length d1, .slice A2 v.l.els.length d2, .slice A3 v.l.sgs.length d3] 104)
    exact NS.mk (hb1.alloc _) (Blk.new _ _ _ _ rfl) ((hr1.now hal).more fun b hb => by have h : b < _ := hb; simpa using h) ((hr2.now hal).more fun b hb => by have h : b < _ := hb; simpa using h) ((hr3.now hal).more fun b hb => by have h : b < _ := hb; simpa using h) hb1.lt
  clear x0 x1 x2 x3 x4 x5 hq hr1 hr2 hr3 hb0 hb1 HNM
  go_wp2_with fail
  have hgs : (w1.alloc (.cells #[.slice A1 v.l.secs.length d1, .slice A2 v.l.els.length d2, .slice A3 v.l.sgs.length d3] 104)).heap.size = w1.heap.size + 1 := by simp
  generalize w1.alloc (.cells #[.slice A1 v.l.secs.length d1, .slice A2 v.l.els.length d2, .slice A3 v.l.sgs.length d3] 104) = W2 at *
  generalize w1.heap.size = g at *
  have hnl1 : (allN v.l).length ≤ 10000 := by simp [allN]; omega
  obtain ⟨al, hal⟩ : ∃ al, allN v.l = al := ⟨_, rfl⟩
  have hal2 : ((([v.l.name] ++ v.l.secs) ++ v.l.els.map Elt.name) ++ v.l.sgs.map Sgn.name) = al := hal
  have HALL := Lib.hid hal2
  rw [hal] at HAL hnl1
  clear hal hal2
  go_region_held3 (fun W => W.cell? ⟨w.heap.size, 0, none⟩ = some (.string (bs v.l.name)) ∧ W.cell? ⟨g, 0, none⟩ = some (.slice A1 v.l.secs.length d1) ∧ W.cell? ⟨g, 1, none⟩ = some (.slice A2 v.l.els.length d2) ∧ W.cell? ⟨g, 2, none⟩ = some (.slice A3 v.l.sgs.length d3) ∧ (Bx w W v ∧ Blk W g 104 #[.slice A1 v.l.secs.length d1, .slice A2 v.l.els.length d2, .slice A3 v.l.sgs.length d3] ∧ RdS cS W (fun b => b < g + 1) A1 v.l.secs ∧ RdS cS W (fun b => b < g + 1) A2 (v.l.els.map Elt.name) ∧ RdS cS W (fun b => b < g + 1) A3 (v.l.sgs.map Sgn.name) ∧ w.heap.size < g)) (first | assumption | exact NS.drew hr ‹_› | exact NS.alloc hr ‹_› _ | exact NS.now hr ‹_› (by assumption)) (first
    | (refine step_at_append (by rfl) ?_; refine step_append_low (c := cS) rfl _ _ 22 rfl (g + 1) 9 i0 _ 16 Tryz.underlying22 hi0 hz0 hz1 hz2 rfl (by decide) _ _ (by rfl) (by first | exact hlB | exact hlB.drew | exact hlB.drew.drew) A3 d3 v.l.sgs.length (v.l.sgs.map Sgn.name) (by simp) (by rfl) (NS.all (by assumption : NS w v g A1 A2 A3 d1 d2 d3 _)).2.2.2.2.1 (fun ys x h => strs_one ys x h) (by simp; omega) (by omega) ?_; intro vC wC hlC hbC; have hns9 := NS.now hr (by assumption : NS w v g A1 A2 A3 d1 d2 d3 _) hbC; rw [HALL.out] at hlC; obtain ⟨A9, c9, rfl, hc9, hr9⟩ := hlC.reads)
    | (refine step_at_append (by rfl) ?_; refine step_append_low (c := cS) rfl _ _ 22 rfl (g + 1) 9 i0 _ 16 Tryz.underlying22 hi0 hz0 hz1 hz2 rfl (by decide) _ _ (by rfl) (by first | exact hlA | exact hlA.drew | exact hlA.drew.drew) A2 d2 v.l.els.length (v.l.els.map Elt.name) (by simp) (by rfl) (NS.all (by assumption : NS w v g A1 A2 A3 d1 d2 d3 _)).2.2.2.1 (fun ys x h => strs_one ys x h) (by simp; omega) (by omega) ?_; intro vB wB hlB hbB; obtain ⟨Ab, nb, cb, rfl⟩ : ∃ A n c, vB = .slice A n c := (by obtain ⟨A, c, h⟩ := hlB.ownS.form; exact ⟨A, _, c, h⟩); have hnsB := NS.now hr (by assumption : NS w v g A1 A2 A3 d1 d2 d3 _) hbB)
    | (refine step_at_append (by rfl) ?_; refine step_append_low (c := cS) rfl _ _ 22 rfl (g + 1) 9 i0 _ 16 Tryz.underlying22 hi0 hz0 hz1 hz2 rfl (by decide) _ [v.l.name] (by rfl) (low_one (by (repeat' (first | (with_reducible exact Blk.new _ _ _ _ (by first | rfl | omega | (simp; done))) | (with_reducible refine Blk.drew ?_)))) (by omega) hnl) A1 d1 v.l.secs.length v.l.secs rfl (by rfl) (NS.all (by assumption : NS w v g A1 A2 A3 d1 d2 d3 _)).2.2.1 (fun ys x h => strs_one ys x h) (by simp; omega) (by omega) ?_; intro vA wA hlA hbA; obtain ⟨Aa, na, ca, rfl⟩ : ∃ A n c, vA = .slice A n c := (by obtain ⟨A, c, h⟩ := hlA.ownS.form; exact ⟨A, _, c, h⟩); have hnsA := NS.now hr (by assumption : NS w v g A1 A2 A3 d1 d2 d3 _) hbA)
    | fail)
  all_goals (
    have hns := (by assumption : NS w v g A1 A2 A3 d1 d2 d3 _)
    have HNS := Lib.hid hns
    have hB := hns.all.1.bel
    clear hns
    go_wp2_with fail
    go_loopw [55] (fun n wr => ∃ k : Nat, k ≤ al.length ∧ n = .int .i64 k ∧ Hid (wr = wC) ∧ Hid ((al.take k).all nameB = true)) (fun n _ => al.length - (intOf n).toNat)
    case atStart => exact ⟨0, Nat.zero_le _, rfl, Lib.hid rfl, Lib.hid (by simp)⟩
    case round =>
      obtain ⟨k, hk, rfl, HW, HK⟩ := hrel
      obtain rfl := HW.out
      clear HW
      by_cases hlt : k < al.length
      · have hki : (k : Int) < (al.length : Int) := by omega
        obtain ⟨b, off, rfl, lb, ho, y0⟩ := hr9.elS hlt
        cases hn : nameB al[k] with
        | false =>
          have HX := Lib.hid (H3.out (by rw [← HAL.out]; exact all_no (p := nameB) hlt hn))
          have HN := Lib.hid fun W => rnameC hn W ho
          clear hn HK HAL HALL
          generalize al[k] = s at *
          go_wp2_with fail
          refine (HN.out _).mono ?_
          rintro e w5 ⟨rfl, rfl⟩
          go_wp2_with fail
          go_ret
          exact ⟨ret_iL HX.out.symm, hB⟩
        | true =>
          have HT := Lib.hid (all_take (p := nameB) hlt HK.out hn)
          have HN := Lib.hid fun W => rnameC hn W ho
          clear hn HK HAL HALL
          generalize al[k] = s at *
          go_wp2_with fail
          refine (HN.out _).mono ?_
          rintro e w5 ⟨rfl, rfl⟩
          go_wp2_with fail
          go_roundw
          case rel => exact ⟨k + 1, by omega, by go_num, Lib.hid trivial, HT⟩
          case measure => simp [intOf]; omega
      · have HA := Lib.hid (all_end (p := nameB) hlt HK.out)
        have HM : Hid (nmsB v.l = true) := Lib.hid (by rw [← HAL.out]; exact HA.out)
        have hns := HNS.out
        have z0 := hns.2.1
        have z1 := hns.2.2.1
        have z2 := hns.2.2.2.1
        have HL1 : Hid (v.l.secs.length ≤ maxLen) := Lib.hid hr.n1.1
        have HL2 : Hid ((v.l.els.map Elt.name).length ≤ maxLen) := Lib.hid (by simpa using hr.n2.1)
        have HL3 : Hid ((v.l.sgs.map Sgn.name).length ≤ maxLen) := Lib.hid (by simpa using hr.n4.1)
        clear hk HK HA HAL HALL hr9 hc9 hlC
        cases e0 : decide v.l.secs.Nodup with
        | false =>
          have HX := Lib.hid (H8.out HM.out (by unfold difB; rw [e0]; simp))
          have HT1 := Lib.hid (textsC rfl e0 A1 d1)
          clear e0
          go_wp2_with fail
          refine (HT1.out _ hns.r1 HL1.out).mono ?_
          rintro e w5 ⟨rfl, hq5⟩
          have hns5 := hns.more hr hq5
          clear z0 z1 z2
          have z0 := hns5.2.1
          have z1 := hns5.2.2.1
          have z2 := hns5.2.2.2.1
          go_wp2_with fail
          go_ret
          exact ⟨ret_iL HX.out.symm, hns5.all.1.bel⟩
        | true =>
          cases e1 : decide (v.l.els.map Elt.name).Nodup with
          | false =>
            have HX := Lib.hid (H8.out HM.out (by unfold difB; rw [e0]; rw [e1]; simp))
            have HT1 := Lib.hid (textsC rfl e0 A1 d1)
            have HT2 := Lib.hid (textsC (n := v.l.els.length) (by simp) e1 A2 d2)
            clear e0 e1
            go_wp2_with fail
            refine (HT1.out _ hns.r1 HL1.out).mono ?_
            rintro e w5 ⟨rfl, hq5⟩
            have hns5 := hns.more hr hq5
            clear z0 z1 z2
            have z0 := hns5.2.1
            have z1 := hns5.2.2.1
            have z2 := hns5.2.2.2.1
            go_wp2_with fail
            refine (HT2.out _ hns5.r2 HL2.out).mono ?_
            rintro e w6 ⟨rfl, hq6⟩
            have hns6 := hns5.more hr hq6
            clear z0 z1 z2
            have z0 := hns6.2.1
            have z1 := hns6.2.2.1
            have z2 := hns6.2.2.2.1
            go_wp2_with fail
            go_ret
            exact ⟨ret_iL HX.out.symm, hns6.all.1.bel⟩
          | true =>
            cases e2 : decide (v.l.sgs.map Sgn.name).Nodup with
            | false =>
              have HX := Lib.hid (H8.out HM.out (by unfold difB; rw [e0]; rw [e1]; rw [e2]; simp))
              have HT1 := Lib.hid (textsC rfl e0 A1 d1)
              have HT2 := Lib.hid (textsC (n := v.l.els.length) (by simp) e1 A2 d2)
              have HT3 := Lib.hid (textsC (n := v.l.sgs.length) (by simp) e2 A3 d3)
              clear e0 e1 e2
              go_wp2_with fail
              refine (HT1.out _ hns.r1 HL1.out).mono ?_
              rintro e w5 ⟨rfl, hq5⟩
              have hns5 := hns.more hr hq5
              clear z0 z1 z2
              have z0 := hns5.2.1
              have z1 := hns5.2.2.1
              have z2 := hns5.2.2.2.1
              go_wp2_with fail
              refine (HT2.out _ hns5.r2 HL2.out).mono ?_
              rintro e w6 ⟨rfl, hq6⟩
              have hns6 := hns5.more hr hq6
              clear z0 z1 z2
              have z0 := hns6.2.1
              have z1 := hns6.2.2.1
              have z2 := hns6.2.2.2.1
              go_wp2_with fail
              refine (HT3.out _ hns6.r3 HL3.out).mono ?_
              rintro e w7 ⟨rfl, hq7⟩
              have hns7 := hns6.more hr hq7
              clear z0 z1 z2
              have z0 := hns7.2.1
              have z1 := hns7.2.2.1
              have z2 := hns7.2.2.2.1
              go_wp2_with fail
              go_ret
              exact ⟨ret_iL HX.out.symm, hns7.all.1.bel⟩
            | true =>
              have HX := Lib.hid (H0.out HM.out (by unfold difB; rw [e0]; rw [e1]; rw [e2]; rfl))
              have HT1 := Lib.hid (textsC rfl e0 A1 d1)
              have HT2 := Lib.hid (textsC (n := v.l.els.length) (by simp) e1 A2 d2)
              have HT3 := Lib.hid (textsC (n := v.l.sgs.length) (by simp) e2 A3 d3)
              clear e0 e1 e2
              go_wp2_with fail
              refine (HT1.out _ hns.r1 HL1.out).mono ?_
              rintro e w5 ⟨rfl, hq5⟩
              have hns5 := hns.more hr hq5
              clear z0 z1 z2
              have z0 := hns5.2.1
              have z1 := hns5.2.2.1
              have z2 := hns5.2.2.2.1
              go_wp2_with fail
              refine (HT2.out _ hns5.r2 HL2.out).mono ?_
              rintro e w6 ⟨rfl, hq6⟩
              have hns6 := hns5.more hr hq6
              clear z0 z1 z2
              have z0 := hns6.2.1
              have z1 := hns6.2.2.1
              have z2 := hns6.2.2.2.1
              go_wp2_with fail
              refine (HT3.out _ hns6.r3 HL3.out).mono ?_
              rintro e w7 ⟨rfl, hq7⟩
              have hns7 := hns6.more hr hq7
              clear z0 z1 z2
              have z0 := hns7.2.1
              have z1 := hns7.2.2.1
              have z2 := hns7.2.2.2.1
              go_wp2_with fail
              go_ret
              exact ⟨ret_iL HX.out.symm, hns7.all.1.bel⟩)
end Go.Proofs.YtopoknocfoiiaaaGreatDoor
