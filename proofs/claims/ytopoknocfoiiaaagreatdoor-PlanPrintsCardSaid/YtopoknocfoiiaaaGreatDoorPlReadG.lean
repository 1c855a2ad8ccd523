/- The walk of reader.read: a line that can stand here. -/
import Derived.Test.YtopoknocfoiiaaaGreatDoorPlRead
namespace Go.Proofs.YtopoknocfoiiaaaGreatDoor
set_option linter.unusedVariables false
set_option linter.unusedSimpArgs false
open Go.RowKit
attribute [local go_sem] bs_size bs_get bs_append bs_extract bs_toList
attribute [-go_sem] run_equalIn_agg
theorem intsV_size (l : List Int) : (intsV l).size = l.length := by simp [intsV]
theorem intsV_get (l : List Int) (k : Nat) : (intsV l)[k]? = (l[k]?).map (Value.int .i64) := by simp [intsV]
theorem intsV_set (l : List Int) (k : Nat) (n : Int) : (intsV l).setIfInBounds k (.int .i64 n) = intsV (l.set k n) := by
  unfold intsV
  rw [List.setIfInBounds_toArray, List.map_set]
theorem zerosV (a : List (List UInt8)) : intsV (zerosF a) = (List.replicate a.length (Value.int .i64 0)).toArray := by simp [intsV, zerosF]
theorem infoIntE : (Tryz.prog.info? 3).map (fun i => (i.zero, i.size, i.bytes)) = some (some (.int .i64 0), 1, 8) := by kernel_rfl
theorem mkInt (N : Nat) (hN : N ≤ 1000000) (W : World) : (Instr.makeSlice 68 (.int .i64 (N : Int)) (.int .i64 (N : Int))).run Tryz.prog W = .ok (.slice (some ⟨W.heap.size, 0, none⟩) N N) (W.alloc (.cells (List.replicate N (Value.int .i64 0)).toArray 3)) := by
  obtain ⟨i0, hi, hz0, hz1, hz2⟩ := info_parts infoIntE
  have h := run_make (P := Tryz.prog) W 68 3 i0 (.int .i64 0) Tryz.underlying68 hi hz0 .i64 .i64 (N : Int) (N : Int) (by omega) (by omega) (by rw [hz2]; omega) (by omega)
  rw [hz1, show ((N : Int)).toNat = N by omega, Nat.mul_one, made_one _ _ rfl] at h
  exact h
/-- What holds while the values are filled in. -/
structure FillS (w : World) (g gi : Nat) (xs : List Int) (wr : World) : Prop where
  bel : Below w.heap.size w wr
  blk : Blk wr gi 3 (intsV xs)
  ge : w.heap.size ≤ gi
section
variable {w wr w' : World} {g gi : Nat} {xs : List Int}
theorem FillS.now (h : FillS w g gi xs wr) (hb : Below wr.heap.size wr w') : FillS w g gi xs w' := ⟨bel_then h.bel h.bel.size hb, h.blk.now hb, h.ge⟩
theorem FillS.set (h : FillS w g gi xs wr) (k : Nat) (n : Int) : FillS w g gi (xs.set k n) (wr.setCell ⟨gi, k, none⟩ (.int .i64 n)) := ⟨h.bel.setCell (p := ⟨gi, k, none⟩) h.ge _, by rw [← intsV_set]; exact h.blk.set k _, h.ge⟩
theorem FillS.cell (h : FillS w g gi xs wr) {k : Nat} {n : Int} (hk : xs[k]? = some n) : wr.cell? ⟨gi, k, none⟩ = some (.int .i64 n) := by
  rw [h.blk.cell, intsV_get, hk]; rfl
theorem FillS.free (h : FillS w g gi xs wr) (k : Nat) : wr.frozen? ⟨gi, k, none⟩ = false := h.blk.free k
end
theorem readPost_yes {g : Nat} {w w' : World} {r : Lay × Int × Int} {l : Lay} {q : Int} {e : Ending} (h : r = (l, q, 0)) (he : e = .returned (.int .i64 0)) (hb : Below g w w') (hr : RWS w' g l q) : ReadPost g w r e w' := by
  subst h
  exact ⟨he, hb, fun _ => hr⟩
theorem chr_cases {c : UInt8} (h : c = 105 ∨ c = 110 ∨ c = 115 ∨ c = 101) : (((c.toNat : Int) == 105) = true ∧ c = 105) ∨ (((c.toNat : Int) == 105) = false ∧ ((c.toNat : Int) == 115) = true ∧ ((c.toNat : Int) == 101) = false ∧ c = 115) ∨ (((c.toNat : Int) == 105) = false ∧ ((c.toNat : Int) == 115) = false ∧ ((c.toNat : Int) == 101) = true ∧ c = 101) ∨ (((c.toNat : Int) == 105) = false ∧ ((c.toNat : Int) == 115) = false ∧ ((c.toNat : Int) == 101) = false ∧ c = 110) := by
  rcases h with rfl | rfl | rfl | rfl <;> decide
theorem idx_i64 {α : Type} [DecidableEq α] (l : List α) (x : α) (hl : l.length ≤ 9223372036854775807) : I64n (idxA l x) := by
  have := idxA_ge l x
  unfold I64n
  omega
set_option maxRecDepth 100000 in
set_option maxHeartbeats 16000000 in
theorem read_go (w : World) (E : EnvR w) (g : Nat) (v : LV) (p : Int) (h : RW w g v.l p (.slice v.A1 v.l.secs.length v.c1) (.slice v.A2 v.l.els.length v.c2) (.slice v.A3 v.l.jts.length v.c3) (.slice v.A4 v.l.sgs.length v.c4) (.slice v.A5 v.l.bls.length v.c5)) (hv : LvR w v)
    (word : List UInt8) (hwl : word.length ≤ 40000) (a : List (List UInt8)) (hal : ∀ x ∈ a, x.length ≤ 40000) (b off cap : Nat) (hr : RdS cS w (fun k => k < g) (some ⟨b, off, none⟩) (word :: a)) (hcap : a.length + 1 ≤ maxLen ∧ a.length + 1 ≤ cap)
    (n : Nat) (hs : SmallL v.l n) (hn : n ≤ 40000) (hfit : fitsB p (word :: a) = true) :
    Calls Tryz.prog 23 #[.pointer (some ⟨g, 0, none⟩), .slice (some ⟨b, off, none⟩) (a.length + 1) cap] w (ReadPost g w (readL v.l p (word :: a))) := by
  obtain ⟨_, _, y⟩ := hr.first
  have hra : RdS cS w (fun k => k < g) (some ⟨b, off + 1, none⟩) a := hr.tail
  have x6 := h.x6
  have hgw := h.blk.lt
  have hgl := Nat.le_of_lt hgw
  obtain ⟨q, hq⟩ : ∃ q, placeF word = q := ⟨_, rfl⟩
  obtain ⟨f, hf⟩ : ∃ f, formF word = f := ⟨_, rfl⟩
  have hfit2 := hfit
  unfold fitsB at hfit2
  simp only [List.headD_cons, List.tail_cons, hq, hf, Bool.and_eq_true, decide_eq_true_eq] at hfit2
  obtain ⟨hq0, hlen, hfo⟩ := hfit2
  have hfp : 0 < f.length := by rw [← hf]; exact form_pos (by rw [hq]; exact hq0)
  have hf6 : f.length ≤ 6 := by rw [← hf]; exact form_len word
  have HCH : Hid (∀ c ∈ f, c = 105 ∨ c = 110 ∨ c = 115 ∨ c = 101) := Lib.hid (by rw [← hf]; exact form_chars word)
  have HINT : Hid (∀ k (h1 : k < f.length) (h2 : k < a.length), iok (f[k], a[k]) = false → readL v.l p (word :: a) = (v.l, p, 4)) := Lib.hid fun k h1 h2 hk => readL_int hfit (by simp only [List.headD_cons, List.tail_cons, hf]; rw [intsOk_eq]; exact zip_no h1 h2 hk)
  have HREF : Hid (intsOk f a = true → ∀ k (h1 : k < f.length) (h2 : k < a.length), rok v.l (f[k], a[k]) = false → readL v.l p (word :: a) = (v.l, p, 9)) := Lib.hid fun hi k h1 h2 hk => readL_ref hfit (by simp only [List.headD_cons, List.tail_cons, hf]; exact hi) (by simp only [List.headD_cons, List.tail_cons, hf]; rw [refsOk_eq]; exact zip_no h1 h2 hk)
  have HYES : Hid (intsOk f a = true → refsOk v.l f a = true → readL v.l p (word :: a) = (addL v.l word a (valsF v.l f a), q, 0)) := Lib.hid fun hi hj => by
    have := readL_yes (l := v.l) hfit (by simp only [List.headD_cons, List.tail_cons, hf]; exact hi) (by simp only [List.headD_cons, List.tail_cons, hf]; exact hj)
    simp only [List.headD_cons, List.tail_cons, hf, hq] at this
    exact this
  have HF := Lib.hid fun w => formC hq hf w
  have HO := Lib.hid fun w => followsC hfo g w
  have HADD : Hid (∀ (W : World), RWS W g v.l q → Blk W w.heap.size 3 (intsV (valsF v.l f a)) → (∀ x ∈ valsF v.l f a, I64n x) → RdS cS W (fun k => k < g) (some ⟨b, off + 1, none⟩) a → Calls Tryz.prog 52 #[.pointer (some ⟨g, 0, none⟩), .string (bs word), .slice (some ⟨b, off + 1, none⟩) a.length (cap - 1), .slice (some ⟨w.heap.size, 0, none⟩) a.length a.length] W fun e w' => e = .returned (.tuple #[]) ∧ RWS w' g (addL v.l word a (valsF v.l f a)) q ∧ Below g W w') := Lib.hid fun W ⟨_, _, _, _, _, h1⟩ h2 h3 h4 =>
    add_any W g v.l q _ _ _ _ _ h1 word (by rw [hq]; exact hq0) (by unfold maxLen; omega) a (by rw [hf]; exact hlen) b (off + 1) (cap - 1) h4 w.heap.size _ (valsF_len hlen.symm) h2 (by omega) h3 n hs (by omega)
  have hc := hcap.2
  have hm := hcap.1
  unfold maxLen at hm
  have hc1 : ¬ cap = 1 := by omega
  have hi0 : (0 : Int) < ((a.length + 1 : Nat) : Int) := by omega
  have hi1 : (0 : Int) ≤ (a.length : Int) := by omega
  have hsl : ∀ W, (Instr.slice 22 (.slice (some ⟨b, off, none⟩) (a.length + 1) cap) (some (.int .i64 1)) none none).run Tryz.prog W = .ok (.slice (some ⟨b, off + 1, none⟩) a.length (cap - 1)) W := fun W => by have := slice1 b off a.length cap hc W; rw [if_neg hc1] at this; exact this
  have hmk := mkInt a.length (by omega)
  have h2 : ((a.length : Int) != (f.length : Int)) = false := by simp [hlen]
  have h0' : decide (q < 0) = false := by simpa using hq0
  have ha6 : a.length ≤ 6 := by omega
  have HLEN := Lib.hid hlen
  have HR := Lib.hid hra
  have H := Lib.hid h
  have HV := Lib.hid hv
  have HHR := Lib.hid hr
  clear hq hf hfit hfo hcap hr hra hq0 hlen hfp hf6 h hv hc hm hc1 hs
  go_enter Tryz.func23, Tryz.ntmps23
  go_wp2_with (first | (go_at_call 47; refine (HF.out _).mono ?_; rintro e w' ⟨rfl, rfl⟩) | (go_at_call 48; refine (HO.out _ x6).mono ?_; rintro e w' ⟨rfl, rfl⟩))
  clear hmk hsl y x6 HF HO h2 h0'
  have hfill : FillS w g w.heap.size (mixL (intsF f a) (zerosF a) 0) (w.alloc (.cells (List.replicate a.length (Value.int .i64 0)).toArray 3)) := by
    rw [mixL_zero]
    exact ⟨(Below.refl _ _).alloc (Nat.le_refl _) _, by rw [zerosV]; exact Blk.new _ _ _ _ rfl, Nat.le_refl _⟩
  go_loopw [44] (fun i wr => ∃ k : Nat, k ≤ a.length ∧ i = .int .i64 k ∧ FillS w g w.heap.size (mixL (intsF f a) (zerosF a) k) wr ∧ Hid (((f.take k).zip (a.take k)).all iok = true)) (fun i _ => a.length - (intOf i).toNat)
  case atStart => exact ⟨0, Nat.zero_le _, rfl, hfill, Lib.hid (by simp)⟩
  case round =>
    obtain ⟨k, hk, rfl, hb, HK⟩ := hrel
    clear hfill
    by_cases hlt : k < a.length
    · have hki : (k : Int) < (a.length : Int) := by omega
      have hlf : k < f.length := by have := HLEN.out; omega
      have hkf : (k : Int) < (f.length : Int) := by omega
      have hbg : Below g w wr := hb.bel.mono hgl
      have hsz := hb.bel.size
      obtain ⟨b', off', hA, _, hwo, y0⟩ := (HR.out.low hbg).elS hlt
      simp only [Option.some.injEq, Addr.mk.injEq, and_true] at hA
      obtain ⟨rfl, rfl⟩ := hA
      have hil : (intsF f a).length = (zerosF a).length := by rw [intsF_len HLEN.out.symm, zerosF_len]
      have hik : k < (intsF f a).length := by rw [intsF_len HLEN.out.symm]; exact hlt
      have hat := intsF_at hik hlf hlt
      have hzt := zerosF_at (a := a) (k := k) (by rw [zerosF_len]; exact hlt)
      have HN := Lib.hid fun h => HINT.out k hlf hlt h
      have HS := Lib.hid fun h => take_all_snoc (P := iok) hlf hlt HK.out h
      have HSET : Hid ((mixL (intsF f a) (zerosF a) k).set k (int1 f[k] a[k]) = mixL (intsF f a) (zerosF a) (k + 1)) := Lib.hid (by rw [← hat]; exact mixL_set hil hik)
      have hc := hb.cell (mixL_get hil hik)
      rw [hzt] at hc
      have hfr := hb.free k
      have hx40 := hal _ (List.getElem_mem hlt)
      rcases chr_cases (HCH.out _ (List.getElem_mem hlf)) with ⟨c1, ce⟩ | hoth
      · have HSAME : Hid (int1 f[k] a[k] = (intF a[k]).1) := Lib.hid (by unfold int1; rw [if_pos ce])
        obtain ⟨⟨m, x⟩, hm⟩ : ∃ r, intF a[k] = r := ⟨_, rfl⟩
        have HI := Lib.hid fun W E => intPC hm W E (by omega)
        by_cases hx : x = 0
        · subst hx
          have HOK := Lib.hid (HS.out (by simp [iok, hm]))
          have HM : Hid ((mixL (intsF f a) (zerosF a) k).set k m = mixL (intsF f a) (zerosF a) (k + 1)) := Lib.hid (by rw [← HSET.out, HSAME.out, hm])
          clear hx40 hm ce HSAME hat hzt HN HS HSET hil hik
          generalize a[k] = s at *
          go_wp2_with fail
          refine (HI.out _ (E.now hb.bel)).mono ?_
          rintro e w5 ⟨rfl, hq5⟩
          have hb5 := hb.now hq5
          have hc5 := (hq5.cell (p := ⟨w.heap.size, k, none⟩) hb.blk.lt).trans hc
          have hf5 := hb5.free k
          clear y0 hc hfr hb hq5
          go_wp2_with fail
          go_roundw
          case rel => exact ⟨k + 1, by omega, by go_num, by have := hb5.set k m; rw [HM.out] at this; exact this, HOK⟩
          case measure => simp [intOf]; omega
        · have HBAD := Lib.hid (HN.out (by simp [iok, hm, ce, hx]))
          have hxb : (x != 0) = true := by simpa using hx
          clear hx40 hm ce HSAME hat hzt HN HS HSET hil hik
          generalize a[k] = s at *
          go_wp2_with fail
          refine (HI.out _ (E.now hb.bel)).mono ?_
          rintro e w5 ⟨rfl, hq5⟩
          have hb5 := (hb.now hq5).bel.mono hgl
          go_wp2_with fail
          go_ret
          exact readPost_no HBAD.out (by decide) rfl hb5
      · have hce : ((f[k].toNat : Int) == 105) = false ∧ f[k] ≠ 105 := by
          rcases hoth with ⟨h1, _, _, h4⟩ | ⟨h1, _, _, h4⟩ | ⟨h1, _, _, h4⟩ <;> exact ⟨h1, by rw [h4]; decide⟩
        obtain ⟨c1, ce⟩ := hce
        have HOK := Lib.hid (HS.out (by simp [iok, ce]))
        have HM : Hid (mixL (intsF f a) (zerosF a) k = mixL (intsF f a) (zerosF a) (k + 1)) := Lib.hid (mixL_same hil hik (by rw [hat, hzt]; unfold int1; rw [if_neg ce]))
        clear hx40 hoth ce hat hzt HN HS HSET hil hik
        generalize a[k] = s at *
        go_wp2_with fail
        go_roundw
        case rel => exact ⟨k + 1, by omega, by go_num, by rw [← HM.out]; exact hb, HOK⟩
        case measure => simp [intOf]; omega
    · have hkk : ¬ k < (intsF f a).length := by rw [intsF_len HLEN.out.symm]; exact hlt
      have hb2 : FillS w g w.heap.size (mixL (valsF v.l f a) (intsF f a) 0) wr := by
        rw [mixL_zero, ← mixL_all (ys := zerosF a) (by rw [intsF_len HLEN.out.symm, zerosF_len]) hkk]
        exact hb
      have HI1 : Hid (intsOk f a = true) := Lib.hid (by
        have := HK.out
        have hl := HLEN.out
        rw [List.take_of_length_le (by omega), List.take_of_length_le (by omega)] at this
        exact this)
      have HREF2 := Lib.hid (HREF.out HI1.out)
      have HYES2 := Lib.hid (HYES.out HI1.out)
      clear hkk hb HK HREF HYES HINT
      go_wp2_with fail
      go_loopw [67] (fun i wr => ∃ k : Nat, k ≤ a.length ∧ i = .int .i64 k ∧ FillS w g w.heap.size (mixL (valsF v.l f a) (intsF f a) k) wr ∧ Hid (((f.take k).zip (a.take k)).all (rok v.l) = true)) (fun i _ => a.length - (intOf i).toNat)
      case atStart => exact ⟨0, Nat.zero_le _, rfl, hb2, Lib.hid (by simp)⟩
      case round =>
        obtain ⟨k, hk, rfl, hb, HK⟩ := hrel
        clear hb2
        by_cases hlt : k < a.length
        · have hki : (k : Int) < (a.length : Int) := by omega
          have hlf : k < f.length := by have := HLEN.out; omega
          have hkf : (k : Int) < (f.length : Int) := by omega
          have hbg : Below g w wr := hb.bel.mono hgl
          have hsz := hb.bel.size
          obtain ⟨b', off', hA, _, hwo, y0⟩ := (HR.out.low hbg).elS hlt
          simp only [Option.some.injEq, Addr.mk.injEq, and_true] at hA
          obtain ⟨rfl, rfl⟩ := hA
          have hil : (valsF v.l f a).length = (intsF f a).length := by rw [intsF_len HLEN.out.symm, valsF_len HLEN.out.symm]
          have hik : k < (valsF v.l f a).length := by rw [valsF_len HLEN.out.symm]; exact hlt
          have hat := valsF_at (l := v.l) hik hlf hlt
          have hzt := intsF_at (f := f) (a := a) (k := k) (by rw [intsF_len HLEN.out.symm]; exact hlt) hlf hlt
          have HN := Lib.hid fun h => HREF2.out k hlf hlt h
          have HS := Lib.hid fun h => take_all_snoc (P := rok v.l) hlf hlt HK.out h
          have HSET : Hid ((mixL (valsF v.l f a) (intsF f a) k).set k (valF v.l f[k] a[k]) = mixL (valsF v.l f a) (intsF f a) (k + 1)) := Lib.hid (by rw [← hat]; exact mixL_set hil hik)
          have HGT : Hid ((mixL (valsF v.l f a) (intsF f a) (k + 1))[k]? = some (valF v.l f[k] a[k])) := Lib.hid (by rw [← HSET.out, List.getElem?_set_self (by rw [mixL_len hil]; exact hik)])
          have hc := hb.cell (mixL_get hil hik)
          rw [hzt] at hc
          have hfr := hb.free k
          have h1 := H.out.now hb.bel
          have hv1 := HV.out.now hb.bel
          have x0 := h1.x0
          have x1 := h1.x1
          have x2 := h1.x2
          have x3 := h1.x3
          have x4 := h1.x4
          have x5 := h1.x5
          have hxi : k < w.heap.size + k + 1 := by omega
          rcases chr_cases (HCH.out _ (List.getElem_mem hlf)) with ⟨c1, ce⟩ | ⟨c1, c2, c3, ce⟩ | ⟨c1, c2, c3, ce⟩ | ⟨c1, c2, c3, ce⟩
          · have c2 : ((f[k].toNat : Int) == 115) = false := by rw [ce]; decide
            have c3 : ((f[k].toNat : Int) == 101) = false := by rw [ce]; decide
            have HOK := Lib.hid (HS.out (by simp [rok, ce]))
            have HM : Hid (mixL (valsF v.l f a) (intsF f a) k = mixL (valsF v.l f a) (intsF f a) (k + 1)) := Lib.hid (mixL_same hil hik (by rw [hat, hzt]; unfold int1 valF; rw [if_pos ce, if_pos ce]))
            clear ce hat hzt HN HS HSET HGT hil hik x0 x1 x2 x3 x4 x5 hc
            generalize a[k] = s at *
            go_wp2_with fail
            go_roundw
            case rel => exact ⟨k + 1, by omega, by go_num, by rw [← HM.out]; exact hb, HOK⟩
            case measure => simp [intOf]; omega
          · have HVE : Hid (valF v.l f[k] a[k] = idxA v.l.secs a[k]) := Lib.hid (by unfold valF; rw [ce]; rfl)
            have hie := (idxA_ge v.l.secs a[k]).1
            have HI := Lib.hid fun (W : World) (hw : LvR W v) => index_any v.l.secs v.A1 v.c1 a[k] W hw.r1 hw.n1.1
            have HOKX := Lib.hid fun (h : 0 ≤ idxA v.l.secs a[k]) => HS.out (by unfold rok; rw [show valF v.l (f[k], a[k]).fst (f[k], a[k]).snd = idxA v.l.secs a[k] from HVE.out]; simp [h])
            have HNX := Lib.hid fun (h : idxA v.l.secs a[k] < 0) => HN.out (by unfold rok; rw [show valF v.l (f[k], a[k]).fst (f[k], a[k]).snd = idxA v.l.secs a[k] from HVE.out]; simp [ce]; omega)
            rw [HVE.out] at HSET HGT
            clear ce hat hzt HN HS hil hik HVE
            generalize idxA v.l.secs a[k] = m at *
            generalize a[k] = s at *
            have hb5 := hb.set k m
            rw [HSET.out] at hb5
            have hc5 := hb5.cell HGT.out
            by_cases hm : m < 0
            · have HB := Lib.hid (HNX.out hm)
              clear HOKX HNX HSET HGT
              go_wp2_with (go_at_call 50; refine (HI.out _ hv1).mono ?_; rintro e w' ⟨rfl, rfl⟩)
              go_ret
              exact readPost_no HB.out (by decide) rfl (hb5.bel.mono hgl)
            · have HOK := Lib.hid (HOKX.out (by omega))
              clear HOKX HNX HSET HGT
              go_wp2_with (go_at_call 50; refine (HI.out _ hv1).mono ?_; rintro e w' ⟨rfl, rfl⟩)
              go_roundw
              case rel => exact ⟨k + 1, by omega, by go_num, hb5, HOK⟩
              case measure => simp [intOf]; omega
          · have HVE : Hid (valF v.l f[k] a[k] = idxA (v.l.els.map Elt.name) a[k]) := Lib.hid (by unfold valF; rw [ce]; rfl)
            have hie := (idxA_ge (v.l.els.map Elt.name) a[k]).1
            have HI := Lib.hid fun (W : World) (hw : LvR W v) => element_any v a[k] W hw
            have HOKX := Lib.hid fun (h : 0 ≤ idxA (v.l.els.map Elt.name) a[k]) => HS.out (by unfold rok; rw [show valF v.l (f[k], a[k]).fst (f[k], a[k]).snd = idxA (v.l.els.map Elt.name) a[k] from HVE.out]; simp [h])
            have HNX := Lib.hid fun (h : idxA (v.l.els.map Elt.name) a[k] < 0) => HN.out (by unfold rok; rw [show valF v.l (f[k], a[k]).fst (f[k], a[k]).snd = idxA (v.l.els.map Elt.name) a[k] from HVE.out]; simp [ce]; omega)
            rw [HVE.out] at HSET HGT
            unfold lvA at HI
            clear ce hat hzt HN HS hil hik HVE
            generalize idxA (v.l.els.map Elt.name) a[k] = m at *
            generalize a[k] = s at *
            go_wp2_with fail
            refine (HI.out _ hv1).mono ?_
            rintro e w5 ⟨rfl, hq5⟩
            have hb4 := hb.now hq5
            have hc4 := (hq5.cell (p := ⟨w.heap.size, k, none⟩) hb.blk.lt).trans hc
            have hf4 := hb4.free k
            have hb5 := hb4.set k m
            rw [HSET.out] at hb5
            have hc5 := hb5.cell HGT.out
            clear x0 x1 x2 x3 x4 x5 hc hfr y0 hb hq5 h1 hv1
            by_cases hm : m < 0
            · have HB := Lib.hid (HNX.out hm)
              clear HOKX HNX HSET HGT
              go_wp2_with fail
              go_ret
              exact readPost_no HB.out (by decide) rfl (hb5.bel.mono hgl)
            · have HOK := Lib.hid (HOKX.out (by omega))
              clear HOKX HNX HSET HGT
              go_wp2_with fail
              go_roundw
              case rel => exact ⟨k + 1, by omega, by go_num, hb5, HOK⟩
              case measure => simp [intOf]; omega
          · have HOK := Lib.hid (HS.out (by simp [rok, ce, valF]))
            have HM : Hid (mixL (valsF v.l f a) (intsF f a) k = mixL (valsF v.l f a) (intsF f a) (k + 1)) := Lib.hid (mixL_same hil hik (by rw [hat, hzt]; unfold int1 valF; rw [ce]; rfl))
            clear ce hat hzt HN HS HSET HGT hil hik x0 x1 x2 x3 x4 x5 hc
            generalize a[k] = s at *
            go_wp2_with fail
            go_roundw
            case rel => exact ⟨k + 1, by omega, by go_num, by rw [← HM.out]; exact hb, HOK⟩
            case measure => simp [intOf]; omega
        · have hkk : ¬ k < (valsF v.l f a).length := by rw [valsF_len HLEN.out.symm]; exact hlt
          have hb3 : FillS w g w.heap.size (valsF v.l f a) wr := by
            rw [← mixL_all (xs := valsF v.l f a) (ys := intsF f a) (by rw [intsF_len HLEN.out.symm, valsF_len HLEN.out.symm]) hkk]
            exact hb
          have HI2 : Hid (refsOk v.l f a = true) := Lib.hid (by
            have := HK.out
            have hl := HLEN.out
            rw [List.take_of_length_le (by omega), List.take_of_length_le (by omega)] at this
            exact this)
          have HY3 := Lib.hid (HYES2.out HI2.out)
          have hbg : Below g w wr := hb3.bel.mono hgl
          have h1 := H.out.now hb3.bel
          have x6 := h1.x6
          have f6 := h1.free 6
          have hne : w.heap.size ≠ g := by omega
          have h2 := h1.put6 q
          have hb6 : Below g w (wr.setCell ⟨g, 6, none⟩ (.int .i64 q)) := hbg.setCell (p := ⟨g, 6, none⟩) (Nat.le_refl g) _
          obtain ⟨_, _, y⟩ := (HHR.out.low hbg).first
          obtain ⟨_, _, y2⟩ := (HHR.out.low hb6).first
          have HA := Lib.hid (HADD.out _ ⟨_, _, _, _, _, h2⟩ (hb3.blk.far (p := ⟨g, 6, none⟩) hne _) (by
            intro x hx
            obtain ⟨i, hi, rfl⟩ := List.mem_iff_getElem.1 hx
            rw [valsF_at hi (by rw [valsF_len HLEN.out.symm] at hi; have := HLEN.out; omega) (by rw [valsF_len HLEN.out.symm] at hi; exact hi)]
            have e1 := HV.out.n1.1
            have e2 := HV.out.n2.1
            unfold maxLen at e1 e2
            unfold valF
            repeat' split
            · exact intP_i64 _
            · exact idx_i64 _ _ (by omega)
            · exact idx_i64 _ _ (by simp; omega)
            · exact i64_zero) (HR.out.low hb6))
          clear hkk hb HK hb3 h1 h2
          go_wp2_with fail
          refine HA.out.mono ?_
          rintro e w9 ⟨rfl, hw9, hb9⟩
          go_wp2_with fail
          go_ret
          exact readPost_yes HY3.out rfl (hb6.trans hb9) hw9
end Go.Proofs.YtopoknocfoiiaaaGreatDoor
