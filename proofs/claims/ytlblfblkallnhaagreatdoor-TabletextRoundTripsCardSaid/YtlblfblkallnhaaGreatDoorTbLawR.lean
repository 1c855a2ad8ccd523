/- The walk of the law TabletextRoundTrips. -/
import Derived.Test.YtlblfblkallnhaaGreatDoorTbLawL
namespace Go.Proofs.YtlblfblkallnhaaGreatDoor
set_option linter.unusedVariables false
set_option linter.unusedSimpArgs false
open Go.RowKit
attribute [local go_sem] bs_size bs_get bs_append bs_extract bs_toList
attribute [-go_sem] run_equalIn_agg
theorem RdS.all {α : Type} {c : Cod α} {w : World} {S : Nat → Prop} {A : Option Addr} {l : List α} (h : RdS c w S A l) : ∀ x ∈ l, ∃ ys, c.rd w S ys x := by
  intro x hx
  obtain ⟨i, hi⟩ := List.getElem?_of_mem hx
  obtain ⟨b, off, _, _, h3⟩ := h (List.length_pos_iff.2 (List.ne_nil_of_mem hx))
  obtain ⟨ys, h4, _⟩ := h3 i x hi
  exact ⟨ys, h4⟩
theorem RvR.rouO {w : World} {S : Nat → Prop} {v : RouV} (h : RvR w S v) : RouO v.r := by
  have kI : ∀ {A : Option Addr} {l : List Int}, RdS cI w S A l → I64s l := fun h x hx => by obtain ⟨ys, _, h⟩ := h.all x hx; exact h
  have kS : ∀ {A : Option Addr} {l : List Stp}, RdS cStp w S A l → ∀ s ∈ l, I64s (stpN s) := fun h x hx => by
    obtain ⟨ys, _, h1, h2, h3⟩ := h.all x hx
    intro n hn; simp only [stpN, List.mem_cons, List.not_mem_nil, or_false] at hn
    rcases hn with rfl | rfl | rfl <;> assumption
  have kG : ∀ {A : Option Addr} {l : List Stg}, RdS cStg w S A l → ∀ s ∈ l, I64s (stgN s) := fun h x hx => by
    obtain ⟨ys, _, h1, h2⟩ := h.all x hx
    intro n hn; simp only [stgN, List.mem_cons, List.not_mem_nil, or_false] at hn
    rcases hn with rfl | rfl <;> assumption
  have kE : ∀ {A : Option Addr} {l : List End2}, RdS cEnd w S A l → ∀ s ∈ l, I64s (endN s) := fun h x hx => by
    obtain ⟨ys, _, h1, h2⟩ := h.all x hx
    intro n hn; simp only [endN, List.mem_cons, List.not_mem_nil, or_false] at hn
    rcases hn with rfl | rfl <;> assumption
  have i4 : ∀ {a b c d : Int}, I64n a → I64n b → I64n c → I64n d → I64s [a, b, c, d] := fun ha hb hc hd n hn => by
    simp only [List.mem_cons, List.not_mem_nil, or_false] at hn
    rcases hn with rfl | rfl | rfl | rfl <;> assumption
  exact ⟨i4 h.o.ent h.o.ext h.o.app h.o.len, kS h.r1, kG h.r2, kI h.r3, kS h.r4, kG h.r5, kI h.r6, kG h.r7, kI h.r8, kE h.r9⟩
theorem TvR.tabO {w : World} {v : TabV} (h : TvR w v) : TabO v.t := by
  refine ⟨fun n hn => ?_, fun n hn => ?_, fun n hn => ?_, fun r hr => ?_⟩
  · simp only [List.mem_cons, List.not_mem_nil, or_false] at hn
    rcases hn with rfl | rfl
    · exact h.sec
    · exact h.sig
  · obtain ⟨ys, _, h2⟩ := h.r2.all n hn; exact h2
  · obtain ⟨ys, _, h2⟩ := h.r3.all n hn; exact h2
  · obtain ⟨ys, q, rfl, _, h2⟩ := h.r1.all r hr; exact h2.rouO
/-- The lists of what has a text are not long. -/
theorem sh_text {t : Tab} {s : List UInt8} (h : prtT t = (s, 0)) : ∀ r ∈ t.rts, ShR r := by
  obtain ⟨_, hj⟩ := prt_chk h
  have hl := lines_join hj
  obtain ⟨hg, htx, _, hsl⟩ := lines_ok hl
  have hc := cnt_text _ hg
  rw [← htx] at hc
  intro r hr
  have key : ∀ (w : List UInt8) (l : List (List UInt8)), (∀ x ∈ lstW w l, x ∈ listsR r) → l.length ≤ 40000 := by
    intro w l hm
    cases l with
    | nil => simp
    | cons a b =>
      have h1 : (w :: a :: b) ∈ listsR r := hm _ (by simp [lstW])
      have h2 : (w :: a :: b) ∈ linesT t := by
        unfold linesT
        simp only [List.mem_cons, List.mem_append, List.mem_flatMap]
        exact Or.inr (Or.inr ⟨r, hr, by simp [rouW, h1]⟩)
      have h3 := cnt_mem h2
      simp only [List.length_cons] at h3 ⊢
      omega
  have k1 := key pathW (stpsW r.path) (fun x hx => by simp only [listsR, List.mem_append]; simp [hx])
  have k2 := key pointsW (stgsW r.pts) (fun x hx => by simp only [listsR, List.mem_append]; simp [hx])
  have k3 := key sectionsW (numsW r.secs) (fun x hx => by simp only [listsR, List.mem_append]; simp [hx])
  have k4 := key overW (stpsW r.over) (fun x hx => by simp only [listsR, List.mem_append]; simp [hx])
  have k5 := key overpointsW (stgsW r.opts) (fun x hx => by simp only [listsR, List.mem_append]; simp [hx])
  have k6 := key oversectionsW (numsW r.osecs) (fun x hx => by simp only [listsR, List.mem_append]; simp [hx])
  have k7 := key flankW (stgsW r.flk) (fun x hx => by simp only [listsR, List.mem_append]; simp [hx])
  have k8 := key guardsW (numsW r.grd) (fun x hx => by simp only [listsR, List.mem_append]; simp [hx])
  have k9 := key gapsW (endsW r.gap) (fun x hx => by simp only [listsR, List.mem_append]; simp [hx])
  simp only [stpsW, stgsW, numsW, endsW, List.length_map] at k1 k2 k3 k4 k5 k6 k7 k8 k9
  exact ⟨k1, k2, k3, k4, k5, k6, k7, k8, k9⟩
theorem sh_secs {t : Tab} (h : ∀ r ∈ t.rts, ShR r) : SecsOk t := fun r hr => by obtain ⟨_, _, h3, _, _, h6, _⟩ := h r hr; exact ⟨h3, h6⟩
set_option maxRecDepth 100000 in
set_option maxHeartbeats 16000000 in
theorem tabletextRoundTrips_walk (v : TabV) (s : List UInt8) (w : World) (E : EnvR w) (hv : TvR w v) (hs : s.length ≤ maxLen) : Calls Tryz.prog 5 #[tvA v, .string (bs s)] w (True1 w) := by
  have hb0 := Bx.new hv
  have hto := hv.tabO
  have HE := Lib.hid E
  unfold maxLen at hs
  clear E hv
  have x0 := hb0.x0
  have x1 := hb0.x1
  have x2 := hb0.x2
  have x3 := hb0.x3
  have x4 := hb0.x4
  cases hf : fewT v.t with
  | false =>
    have HF := Lib.hid fun W h => fewC hf W h
    clear hf
    unfold tvA at *
    go_enter Tryz.func5, Tryz.ntmps5
    go_wp2_with fail
    refine (HF.out _ hb0.rd).mono ?_
    rintro e w1 ⟨rfl, hq1⟩
    have hB := (hb0.now hq1).bel
    clear x0 x1 x2 x3 x4 hb0 hq1
    go_wp2_with fail
    refine (alive_any _ (HE.out.now hB)).mono ?_
    rintro e wz ⟨rfl, hqz⟩
    have hz := bel_then hB hB.size hqz
    go_wp2_with fail
    go_ret
    exact ⟨rfl, hz⟩
  | true =>
  have HF := Lib.hid fun W h => fewC hf W h
  obtain ⟨f1, f2, f3, f4⟩ := few_sh hf
  clear hf
  by_cases hlong : 20000 < s.length
  · have hl2 : (20000 : Int) < (s.length : Int) := by omega
    clear hlong
    unfold tvA at *
    go_enter Tryz.func5, Tryz.ntmps5
    go_wp2_with fail
    refine (HF.out _ hb0.rd).mono ?_
    rintro e w1 ⟨rfl, hq1⟩
    have hB := (hb0.now hq1).bel
    clear x0 x1 x2 x3 x4 hb0 hq1
    go_wp2_with fail
    refine (alive_any _ (HE.out.now hB)).mono ?_
    rintro e wz ⟨rfl, hqz⟩
    have hz := bel_then hB hB.size hqz
    go_wp2_with fail
    go_ret
    exact ⟨rfl, hz⟩
  have hl2 : ¬ (20000 : Int) < (s.length : Int) := by omega
  have hsm : s.length ≤ maxLen := by unfold maxLen; omega
  have HSM := Lib.hid hsm
  have HF4 := Lib.hid f4
  obtain ⟨⟨x, e⟩, hp⟩ : ∃ r, prtT v.t = r := ⟨_, rfl⟩
  obtain ⟨c, hc⟩ : ∃ c, chkT v.t = c := ⟨_, rfl⟩
  have HPR := Lib.hid fun W E h => tprintC hp W E h f4
  have HCH := Lib.hid fun W h => tcheckC v hc W h (sh_secs f4)
  have hxl := prt_len hp
  clear hlong f4 hsm hs
  by_cases hc0 : c = 0
  case neg =>
    obtain ⟨rfl, rfl⟩ : x = [] ∧ e = c := by have h := prtT_bad hc hc0; rw [hp] at h; simpa using h
    have hcb : (e != 0) = true := by simpa using hc0
    have hcb2 : (e == 0) = false := by simpa using hc0
    clear hp hc hc0 hto hxl
    unfold tvA at *
    go_enter Tryz.func5, Tryz.ntmps5
    go_wp2_with fail
    refine (HF.out _ hb0.rd).mono ?_
    rintro e1 w1 ⟨rfl, hq1⟩
    have hb1 := hb0.now hq1
    clear x0 x1 x2 x3 x4 hb0 hq1
    have x0 := hb1.x0
    have x1 := hb1.x1
    have x2 := hb1.x2
    have x3 := hb1.x3
    have x4 := hb1.x4
    go_wp2_with fail
    refine (HPR.out _ (HE.out.now hb1.bel) hb1.rd).mono ?_
    rintro e2 w2 ⟨rfl, hq2⟩
    have hb2 := hb1.now hq2
    clear x0 x1 x2 x3 x4 hb1 hq2
    have x0 := hb2.x0
    have x1 := hb2.x1
    have x2 := hb2.x2
    have x3 := hb2.x3
    have x4 := hb2.x4
    go_wp2_with fail
    refine (HCH.out _ hb2.rd).mono ?_
    rintro e3 w3 ⟨rfl, hq3⟩
    have hb3 := hb2.now hq3
    clear x0 x1 x2 x3 x4 hb2 hq3
    have hB := hb3.bel
    clear hb3
    go_wp2_with fail
    obtain ⟨⟨u, k, y⟩, hps⟩ : ∃ r, parT s = r := ⟨_, rfl⟩
    refine (tparseC hps _ (HE.out.now hB) HSM.out).mono ?_
    rintro e5 w5 ⟨v5, rfl, rfl, hr5, hq5⟩
    have hal5 : Below w5.heap.size w5 (w5.alloc (.cells #[.slice v5.A1 v5.t.rts.length v5.c1, .slice v5.A2 v5.t.pts.length v5.c2, .slice v5.A3 v5.t.homes.length v5.c3, .int .i64 v5.t.nsec, .int .i64 v5.t.nsig] 25)) := (Below.refl _ _).alloc (Nat.le_refl _) _
    have hb5 : Blk (w5.alloc (.cells #[.slice v5.A1 v5.t.rts.length v5.c1, .slice v5.A2 v5.t.pts.length v5.c2, .slice v5.A3 v5.t.homes.length v5.c3, .int .i64 v5.t.nsec, .int .i64 v5.t.nsig] 25)) w5.heap.size 25 #[.slice v5.A1 v5.t.rts.length v5.c1, .slice v5.A2 v5.t.pts.length v5.c2, .slice v5.A3 v5.t.homes.length v5.c3, .int .i64 v5.t.nsec, .int .i64 v5.t.nsig] := Blk.new _ _ _ _ rfl
    have hB5 := bel_then hB hB.size (hq5.alloc hq5.size (.cells #[.slice v5.A1 v5.t.rts.length v5.c1, .slice v5.A2 v5.t.pts.length v5.c2, .slice v5.A3 v5.t.homes.length v5.c3, .int .i64 v5.t.nsec, .int .i64 v5.t.nsig] 25))
    have hr6 := hr5.now hal5
    clear hr5 hal5 hq5 hB
    unfold tvA
    dsimp only
    by_cases hy : y = 0
    · subst hy
      obtain ⟨hpu, hcu, hou, hk0⟩ := prt_parT hps
      have hsu := sh_text hpu
      have HPU := Lib.hid fun W E h => tprintC (v := v5) hpu W E h hsu
      have HCU := Lib.hid fun W h => tcheckC v5 hcu W h (sh_secs hsu)
      clear hps hpu hcu hou hk0 hsu
      have z0 := hb5.cell 0
      have z1 := hb5.cell 1
      have z2 := hb5.cell 2
      have z3 := hb5.cell 3
      have z4 := hb5.cell 4
      simp only [List.getElem?_toArray, List.getElem?_cons_zero, List.getElem?_cons_succ] at z0 z1 z2 z3 z4
      go_upto_region 12 with (fail)
      generalize w5.alloc (.cells #[.slice v5.A1 v5.t.rts.length v5.c1, .slice v5.A2 v5.t.pts.length v5.c2, .slice v5.A3 v5.t.homes.length v5.c3, .int .i64 v5.t.nsec, .int .i64 v5.t.nsig] 25) = w6 at *
      generalize w5.heap.size = g5 at *
      go_wp2_with fail
      refine (HPU.out _ (HE.out.now hB5) hr6).mono ?_
      rintro e7 w7 ⟨rfl, hq7⟩
      have hB7 := bel_then hB5 hB5.size hq7
      have hr7 := hr6.now hq7
      have hb7 := hb5.now hq7
      clear z0 z1 z2 z3 z4 hB5 hr6 hb5 hq7
      have z0 := hb7.cell 0
      have z1 := hb7.cell 1
      have z2 := hb7.cell 2
      have z3 := hb7.cell 3
      have z4 := hb7.cell 4
      simp only [List.getElem?_toArray, List.getElem?_cons_zero, List.getElem?_cons_succ] at z0 z1 z2 z3 z4
      go_wp2_with fail
      refine (HCU.out _ hr7).mono ?_
      rintro e8 w8 ⟨rfl, hq8⟩
      have hB8 := bel_then hB7 hB7.size hq8
      clear z0 z1 z2 z3 z4 hB7 hr7 hb7 hq8
      go_wp2_with fail
      refine (alive_any _ (HE.out.now hB8)).mono ?_
      rintro e wz ⟨rfl, hqz⟩
      have hz := bel_then hB8 hB8.size hqz
      go_wp2_with fail
      go_ret
      exact ⟨rfl, hz⟩
    · have hyb : (y == 0) = false := by simpa using hy
      clear hps hy hb5 hr6
      go_wp2_with fail
      refine (alive_any _ (HE.out.now hB5)).mono ?_
      rintro e wz ⟨rfl, hqz⟩
      have hz := bel_then hB5 hB5.size hqz
      go_wp2_with fail
      go_ret
      exact ⟨rfl, hz⟩
  subst hc0
  by_cases he0 : e = 0
  case neg =>
    obtain rfl := prt_err hp he0
    have hcb2 : (e == 0) = false := by simpa using he0
    clear hp hc he0 hto hxl
    unfold tvA at *
    go_enter Tryz.func5, Tryz.ntmps5
    go_wp2_with fail
    refine (HF.out _ hb0.rd).mono ?_
    rintro e1 w1 ⟨rfl, hq1⟩
    have hb1 := hb0.now hq1
    clear x0 x1 x2 x3 x4 hb0 hq1
    have x0 := hb1.x0
    have x1 := hb1.x1
    have x2 := hb1.x2
    have x3 := hb1.x3
    have x4 := hb1.x4
    go_wp2_with fail
    refine (HPR.out _ (HE.out.now hb1.bel) hb1.rd).mono ?_
    rintro e2 w2 ⟨rfl, hq2⟩
    have hb2 := hb1.now hq2
    clear x0 x1 x2 x3 x4 hb1 hq2
    have x0 := hb2.x0
    have x1 := hb2.x1
    have x2 := hb2.x2
    have x3 := hb2.x3
    have x4 := hb2.x4
    go_wp2_with fail
    refine (HCH.out _ hb2.rd).mono ?_
    rintro e3 w3 ⟨rfl, hq3⟩
    have hb3 := hb2.now hq3
    clear x0 x1 x2 x3 x4 hb2 hq3
    have hB := hb3.bel
    clear hb3
    go_wp2_with fail
    obtain ⟨⟨u, k, y⟩, hps⟩ : ∃ r, parT s = r := ⟨_, rfl⟩
    refine (tparseC hps _ (HE.out.now hB) HSM.out).mono ?_
    rintro e5 w5 ⟨v5, rfl, rfl, hr5, hq5⟩
    have hal5 : Below w5.heap.size w5 (w5.alloc (.cells #[.slice v5.A1 v5.t.rts.length v5.c1, .slice v5.A2 v5.t.pts.length v5.c2, .slice v5.A3 v5.t.homes.length v5.c3, .int .i64 v5.t.nsec, .int .i64 v5.t.nsig] 25)) := (Below.refl _ _).alloc (Nat.le_refl _) _
    have hb5 : Blk (w5.alloc (.cells #[.slice v5.A1 v5.t.rts.length v5.c1, .slice v5.A2 v5.t.pts.length v5.c2, .slice v5.A3 v5.t.homes.length v5.c3, .int .i64 v5.t.nsec, .int .i64 v5.t.nsig] 25)) w5.heap.size 25 #[.slice v5.A1 v5.t.rts.length v5.c1, .slice v5.A2 v5.t.pts.length v5.c2, .slice v5.A3 v5.t.homes.length v5.c3, .int .i64 v5.t.nsec, .int .i64 v5.t.nsig] := Blk.new _ _ _ _ rfl
    have hB5 := bel_then hB hB.size (hq5.alloc hq5.size (.cells #[.slice v5.A1 v5.t.rts.length v5.c1, .slice v5.A2 v5.t.pts.length v5.c2, .slice v5.A3 v5.t.homes.length v5.c3, .int .i64 v5.t.nsec, .int .i64 v5.t.nsig] 25))
    have hr6 := hr5.now hal5
    clear hr5 hal5 hq5 hB
    unfold tvA
    dsimp only
    by_cases hy : y = 0
    · subst hy
      obtain ⟨hpu, hcu, hou, hk0⟩ := prt_parT hps
      have hsu := sh_text hpu
      have HPU := Lib.hid fun W E h => tprintC (v := v5) hpu W E h hsu
      have HCU := Lib.hid fun W h => tcheckC v5 hcu W h (sh_secs hsu)
      clear hps hpu hcu hou hk0 hsu
      have z0 := hb5.cell 0
      have z1 := hb5.cell 1
      have z2 := hb5.cell 2
      have z3 := hb5.cell 3
      have z4 := hb5.cell 4
      simp only [List.getElem?_toArray, List.getElem?_cons_zero, List.getElem?_cons_succ] at z0 z1 z2 z3 z4
      go_upto_region 12 with (fail)
      generalize w5.alloc (.cells #[.slice v5.A1 v5.t.rts.length v5.c1, .slice v5.A2 v5.t.pts.length v5.c2, .slice v5.A3 v5.t.homes.length v5.c3, .int .i64 v5.t.nsec, .int .i64 v5.t.nsig] 25) = w6 at *
      generalize w5.heap.size = g5 at *
      go_wp2_with fail
      refine (HPU.out _ (HE.out.now hB5) hr6).mono ?_
      rintro e7 w7 ⟨rfl, hq7⟩
      have hB7 := bel_then hB5 hB5.size hq7
      have hr7 := hr6.now hq7
      have hb7 := hb5.now hq7
      clear z0 z1 z2 z3 z4 hB5 hr6 hb5 hq7
      have z0 := hb7.cell 0
      have z1 := hb7.cell 1
      have z2 := hb7.cell 2
      have z3 := hb7.cell 3
      have z4 := hb7.cell 4
      simp only [List.getElem?_toArray, List.getElem?_cons_zero, List.getElem?_cons_succ] at z0 z1 z2 z3 z4
      go_wp2_with fail
      refine (HCU.out _ hr7).mono ?_
      rintro e8 w8 ⟨rfl, hq8⟩
      have hB8 := bel_then hB7 hB7.size hq8
      clear z0 z1 z2 z3 z4 hB7 hr7 hb7 hq8
      go_wp2_with fail
      refine (alive_any _ (HE.out.now hB8)).mono ?_
      rintro e wz ⟨rfl, hqz⟩
      have hz := bel_then hB8 hB8.size hqz
      go_wp2_with fail
      go_ret
      exact ⟨rfl, hz⟩
    · have hyb : (y == 0) = false := by simpa using hy
      clear hps hy hb5 hr6
      go_wp2_with fail
      refine (alive_any _ (HE.out.now hB5)).mono ?_
      rintro e wz ⟨rfl, hqz⟩
      have hz := bel_then hB5 hB5.size hqz
      go_wp2_with fail
      go_ret
      exact ⟨rfl, hz⟩
  subst he0
  have HPX := Lib.hid (par_prtT hp hto)
  have hxm : x.length ≤ maxLen := by unfold maxLen; omega
  have HXM := Lib.hid hxm
  clear hp hc hto hxl hxm
  unfold tvA at *
  go_enter Tryz.func5, Tryz.ntmps5
  go_wp2_with fail
  refine (HF.out _ hb0.rd).mono ?_
  rintro e1 w1 ⟨rfl, hq1⟩
  have hb1 := hb0.now hq1
  clear x0 x1 x2 x3 x4 hb0 hq1
  have x0 := hb1.x0
  have x1 := hb1.x1
  have x2 := hb1.x2
  have x3 := hb1.x3
  have x4 := hb1.x4
  go_wp2_with fail
  refine (HPR.out _ (HE.out.now hb1.bel) hb1.rd).mono ?_
  rintro e2 w2 ⟨rfl, hq2⟩
  have hb2 := hb1.now hq2
  clear x0 x1 x2 x3 x4 hb1 hq2
  have x0 := hb2.x0
  have x1 := hb2.x1
  have x2 := hb2.x2
  have x3 := hb2.x3
  have x4 := hb2.x4
  go_wp2_with fail
  refine (HCH.out _ hb2.rd).mono ?_
  rintro e3 w3 ⟨rfl, hq3⟩
  have hb3 := hb2.now hq3
  clear x0 x1 x2 x3 x4 hb2 hq3
  go_wp2_with fail
  refine (tparseC HPX.out _ (HE.out.now hb3.bel) HXM.out).mono ?_
  rintro e4 w4 ⟨v4, hv4, rfl, hr4, hq4⟩
  have HV4 := Lib.hid hv4
  have hq4a : Below w3.heap.size w3 (w4.alloc (.cells #[.slice v4.A1 v4.t.rts.length v4.c1, .slice v4.A2 v4.t.pts.length v4.c2, .slice v4.A3 v4.t.homes.length v4.c3, .int .i64 v4.t.nsec, .int .i64 v4.t.nsig] 25)) := hq4.alloc hq4.size _
  have hb4 := hb3.now hq4a
  have hr4a := hr4.now ((Below.refl _ _).alloc (Nat.le_refl _) (.cells #[.slice v4.A1 v4.t.rts.length v4.c1, .slice v4.A2 v4.t.pts.length v4.c2, .slice v4.A3 v4.t.homes.length v4.c3, .int .i64 v4.t.nsec, .int .i64 v4.t.nsig] 25))
  have hbk : Blk (w4.alloc (.cells #[.slice v4.A1 v4.t.rts.length v4.c1, .slice v4.A2 v4.t.pts.length v4.c2, .slice v4.A3 v4.t.homes.length v4.c3, .int .i64 v4.t.nsec, .int .i64 v4.t.nsig] 25)) w4.heap.size 25 #[.slice v4.A1 v4.t.rts.length v4.c1, .slice v4.A2 v4.t.pts.length v4.c2, .slice v4.A3 v4.t.homes.length v4.c3, .int .i64 v4.t.nsec, .int .i64 v4.t.nsig] := Blk.new _ _ _ _ rfl
  clear hv4 hr4 hq4 hq4a hb3
  unfold tvA
  dsimp only
  have x0 := hb4.x0
  have x1 := hb4.x1
  have x2 := hb4.x2
  have x3 := hb4.x3
  have x4 := hb4.x4
  have z0 := hbk.cell 0
  have z1 := hbk.cell 1
  have z2 := hbk.cell 2
  have z3 := hbk.cell 3
  have z4 := hbk.cell 4
  simp only [List.getElem?_toArray, List.getElem?_cons_zero, List.getElem?_cons_succ] at z0 z1 z2 z3 z4
  go_upto_region 9 with (fail)
  generalize w4.alloc (.cells #[.slice v4.A1 v4.t.rts.length v4.c1, .slice v4.A2 v4.t.pts.length v4.c2, .slice v4.A3 v4.t.homes.length v4.c3, .int .i64 v4.t.nsec, .int .i64 v4.t.nsig] 25) = w4' at *
  generalize w4.heap.size = g4 at *
  go_wp2_with fail
  refine (sameTC (a := v4) (b := v) (decide_eq_true HV4.out) _ hr4a hb4.rd (by rw [HV4.out]; omega)).mono ?_
  rintro e6 w6' ⟨rfl, hq6⟩
  have hB := (hb4.now hq6).bel
  clear x0 x1 x2 x3 x4 z0 z1 z2 z3 z4 hb4 hr4a hbk hq6
  go_wp2_with fail
  obtain ⟨⟨u, k, y⟩, hps⟩ : ∃ r, parT s = r := ⟨_, rfl⟩
  refine (tparseC hps _ (HE.out.now hB) HSM.out).mono ?_
  rintro e5 w5 ⟨v5, rfl, rfl, hr5, hq5⟩
  have hal5 : Below w5.heap.size w5 (w5.alloc (.cells #[.slice v5.A1 v5.t.rts.length v5.c1, .slice v5.A2 v5.t.pts.length v5.c2, .slice v5.A3 v5.t.homes.length v5.c3, .int .i64 v5.t.nsec, .int .i64 v5.t.nsig] 25)) := (Below.refl _ _).alloc (Nat.le_refl _) _
  have hb5 : Blk (w5.alloc (.cells #[.slice v5.A1 v5.t.rts.length v5.c1, .slice v5.A2 v5.t.pts.length v5.c2, .slice v5.A3 v5.t.homes.length v5.c3, .int .i64 v5.t.nsec, .int .i64 v5.t.nsig] 25)) w5.heap.size 25 #[.slice v5.A1 v5.t.rts.length v5.c1, .slice v5.A2 v5.t.pts.length v5.c2, .slice v5.A3 v5.t.homes.length v5.c3, .int .i64 v5.t.nsec, .int .i64 v5.t.nsig] := Blk.new _ _ _ _ rfl
  have hB5 := bel_then hB hB.size (hq5.alloc hq5.size (.cells #[.slice v5.A1 v5.t.rts.length v5.c1, .slice v5.A2 v5.t.pts.length v5.c2, .slice v5.A3 v5.t.homes.length v5.c3, .int .i64 v5.t.nsec, .int .i64 v5.t.nsig] 25))
  have hr6 := hr5.now hal5
  clear hr5 hal5 hq5 hB
  unfold tvA
  dsimp only
  by_cases hy : y = 0
  · subst hy
    obtain ⟨hpu, hcu, hou, hk0⟩ := prt_parT hps
    have hsu := sh_text hpu
    have HPU := Lib.hid fun W E h => tprintC (v := v5) hpu W E h hsu
    have HCU := Lib.hid fun W h => tcheckC v5 hcu W h (sh_secs hsu)
    clear hps hpu hcu hou hk0 hsu
    have z0 := hb5.cell 0
    have z1 := hb5.cell 1
    have z2 := hb5.cell 2
    have z3 := hb5.cell 3
    have z4 := hb5.cell 4
    simp only [List.getElem?_toArray, List.getElem?_cons_zero, List.getElem?_cons_succ] at z0 z1 z2 z3 z4
    go_upto_region 12 with (fail)
    generalize w5.alloc (.cells #[.slice v5.A1 v5.t.rts.length v5.c1, .slice v5.A2 v5.t.pts.length v5.c2, .slice v5.A3 v5.t.homes.length v5.c3, .int .i64 v5.t.nsec, .int .i64 v5.t.nsig] 25) = w6 at *
    generalize w5.heap.size = g5 at *
    go_wp2_with fail
    refine (HPU.out _ (HE.out.now hB5) hr6).mono ?_
    rintro e7 w7 ⟨rfl, hq7⟩
    have hB7 := bel_then hB5 hB5.size hq7
    have hr7 := hr6.now hq7
    have hb7 := hb5.now hq7
    clear z0 z1 z2 z3 z4 hB5 hr6 hb5 hq7
    have z0 := hb7.cell 0
    have z1 := hb7.cell 1
    have z2 := hb7.cell 2
    have z3 := hb7.cell 3
    have z4 := hb7.cell 4
    simp only [List.getElem?_toArray, List.getElem?_cons_zero, List.getElem?_cons_succ] at z0 z1 z2 z3 z4
    go_wp2_with fail
    refine (HCU.out _ hr7).mono ?_
    rintro e8 w8 ⟨rfl, hq8⟩
    have hB8 := bel_then hB7 hB7.size hq8
    clear z0 z1 z2 z3 z4 hB7 hr7 hb7 hq8
    go_wp2_with fail
    refine (alive_any _ (HE.out.now hB8)).mono ?_
    rintro e wz ⟨rfl, hqz⟩
    have hz := bel_then hB8 hB8.size hqz
    go_wp2_with fail
    go_ret
    exact ⟨rfl, hz⟩
  · have hyb : (y == 0) = false := by simpa using hy
    clear hps hy hb5 hr6
    go_wp2_with fail
    refine (alive_any _ (HE.out.now hB5)).mono ?_
    rintro e wz ⟨rfl, hqz⟩
    have hz := bel_then hB5 hB5.size hqz
    go_wp2_with fail
    go_ret
    exact ⟨rfl, hz⟩
end Go.Proofs.YtlblfblkallnhaaGreatDoor
