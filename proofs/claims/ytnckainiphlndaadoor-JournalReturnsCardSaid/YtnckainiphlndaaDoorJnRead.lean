/- The walk of the reference's function that reads a line. -/
import Derived.Test.YtnckainiphlndaaDoorJnReadP
import Derived.Test.YtnckainiphlndaaDoorJnEntryB
import Derived.Deep.RegionLaw
import Derived.IntWalk
import Derived.Deep.QuietTactic
import Derived.BigQuiet
namespace Go.Proofs.YtnckainiphlndaaDoor
set_option linter.unusedVariables false
set_option linter.unusedSimpArgs false
open Go.RowKit
attribute [local go_sem] bs_size bs_get bs_append bs_extract bs_toList
theorem infoStr1 : (Tryd.prog.info? 9).map (fun i => (i.zero, i.size, i.bytes)) = some (some (.string ByteArray.empty), 1, 16) := by kernel_rfl
theorem SRow.far {w : World} {T : TypeId} {g cap : Nat} {l : List (List UInt8)} (h : SRow w T g cap l) {b j : Nat} {u : Value} (hg : g ≠ b) : SRow (w.setCell ⟨b, j, none⟩ u) T g cap l := by
  obtain ⟨cur, h1, h2⟩ := h
  exact ⟨cur, h1.far (p := ⟨b, j, none⟩) hg u, h2⟩
def dO (o : Option Nat) (k : Nat) : Int := match o with
  | some d => if d < k then (d : Int) else -1
  | none => -1
theorem dO_lt {d k : Nat} (h : d < k) : dO (some d) k = (d : Int) := if_pos h
theorem dO_zero (o : Option Nat) : dO o 0 = -1 := by unfold dO; cases o <;> simp
theorem dO_succ {o : Option Nat} {k : Nat} (h : o ≠ some k) : dO o (k + 1) = dO o k := by
  unfold dO
  cases o with
  | none => rfl
  | some d =>
    have : d ≠ k := fun e => h (by rw [e])
    by_cases hd : d < k
    · simp only []; rw [if_pos hd, if_pos (by omega)]
    · simp only []; rw [if_neg hd, if_neg (by omega)]
theorem dig_hxd {c : UInt8} {q : Nat} (h : q < 16) : (hxd c = some q → Crc.dig q = c) ∧ (Crc.dig q = c → hxd c = some q) := ⟨fun e => (hxd_some e).2, fun e => e ▸ hxd_dig q h⟩
theorem index_at {l : List UInt8} {k : Nat} (h : k < l.length) (w : World) : (Instr.index 9 (.string (bs l)) (.int .i64 (k : Int))).run Tryd.prog w = .ok (.int .u8 (l[k].toNat : Int)) w := by
  rw [run_index_string _ _ _ _ _ Tryd.underlying9]
  rw [dif_pos (by rw [bs_size]; omega)]
  congr 3
theorem hexdigI (d : Nat) (hd : d < 16) (w : World) : (Instr.index 9 (.string { data := #[48, 49, 50, 51, 52, 53, 54, 55, 56, 57, 97, 98, 99, 100, 101, 102] }) (.int .i64 d)).run Tryd.prog w = .ok (.int .u8 ((Crc.dig d).toNat : Int)) w := by
  have e : ({ data := #[48, 49, 50, 51, 52, 53, 54, 55, 56, 57, 97, 98, 99, 100, 101, 102] } : ByteArray) = bs [48, 49, 50, 51, 52, 53, 54, 55, 56, 57, 97, 98, 99, 100, 101, 102] := rfl
  rw [e, index_at (l := [48, 49, 50, 51, 52, 53, 54, 55, 56, 57, 97, 98, 99, 100, 101, 102]) hd w]
  have h : ∀ q (hq : q < 16), ([48, 49, 50, 51, 52, 53, 54, 55, 56, 57, 97, 98, 99, 100, 101, 102] : List UInt8)[q] = Crc.dig q := by decide
  rw [h d hd]
theorem stp_set {ps : List (List UInt8)} {c : UInt8} (h : 0 < ps.length) (hc : c ≠ 32 ∨ 3 ≤ ps.length) : stp ps c = ps.set (ps.length - 1) (ps[ps.length - 1] ++ [c]) := by
  unfold stp
  rw [if_neg (by rintro ⟨h1, h2⟩; rcases hc with hc | hc; exact hc h1; omega)]
  have e : ps.getLast?.getD [] = ps[ps.length - 1] := by rw [List.getLast?_eq_getElem?, List.getElem?_eq_getElem (by omega)]; rfl
  rw [e]
  apply List.ext_getElem
  · simp; omega
  · intro i h1 h2
    rw [List.getElem_set]
    by_cases hi : ps.length - 1 = i
    · subst hi
      rw [if_pos rfl, List.getElem_append_right (by simp)]
      simp
    · rw [if_neg hi, List.getElem_append_left (by simp at h1 ⊢; omega), List.getElem_dropLast]
set_option maxRecDepth 100000 in
set_option maxHeartbeats 4000000 in
theorem rread_any (l : List UInt8) (w : World) (hs : l.length ≤ 1000000) : Calls Tryd.prog 34 #[.string (bs l)] w (EPost w (entF l)) := by
  obtain ⟨i0, hi0, hz0, hz1, hz2⟩ := info_parts infoStr1
  have HPS := Lib.hid fun k => prs_sum _ (l.take k) rfl
  have HPL := Lib.hid fun k => prs_len (l.take k)
  have hba : Below w.heap.size w (w.alloc (.cells #[.int .i64 0, .string { data := #[] }, .int .u64 0] 37)) := (Below.refl _ _).alloc (Nat.le_refl _) _
  have hblk : Blk (w.alloc (.cells #[.int .i64 0, .string { data := #[] }, .int .u64 0] 37)) w.heap.size 37 #[.int .i64 0, .string { data := #[] }, .int .u64 0] := Blk.new _ _ _ _ rfl
  go_enter Tryd.func34, Tryd.ntmps34
  go_upto_region 1 with (fail)
  generalize w.alloc (.cells #[.int .i64 0, .string { data := #[] }, .int .u64 0] 37) = w0 at *
  have hz0w : w.heap.size < w0.heap.size := hblk.lt
  go_wp2_with fail
  go_loopw [4, 5] (fun v i wr => ∃ (k g cap : Nat), k ≤ l.length ∧ i = .int .i64 k ∧ v = .slice (some ⟨g, 0, none⟩) (prs (l.take k)).length cap ∧ w0.heap.size ≤ g ∧ SRow wr 9 g cap (prs (l.take k)) ∧ Below w0.heap.size w0 wr) (fun _ i _ => l.length - (intOf i).toNat)
  case atStart => exact ⟨0, w0.heap.size, 1, Nat.zero_le _, rfl, rfl, Nat.le_refl _, ⟨_, Blk.new _ _ _ _ rfl, rfl, rfl, by simp [prs], by unfold maxLen; omega⟩, (Below.refl _ _).alloc (Nat.le_refl _) _⟩
  case round =>
    obtain ⟨k, g, cap, hk, rfl, rfl, hg, hrow, hbw⟩ := hrel
    obtain ⟨hp1, hp2⟩ := HPL.out k
    have hcap := hrow.cap_le
    have hgl := hrow.lt
    have hsz := hbw.size
    by_cases hlt : k < l.length
    · have HT := Lib.hid (prs_at hlt)
      have HPSk := HPS.out k
      generalize prs (l.take k) = ps at *
      by_cases hc : l[k] = 32 ∧ ps.length < 3
      · obtain ⟨hc1, hc3⟩ := hc
        have HN : Hid (prs (l.take (k + 1)) = ps ++ [[]]) := Lib.hid (by rw [HT.out, hc1]; exact stp_new ps hc3)
        have c1 : ((l[k].toNat : Int) == 32) = true := by rw [hc1]; decide
        clear hc1
        have hal : Below wr.heap.size wr (wr.alloc (.cells #[.string { data := #[] }] 9)) := (Below.refl _ _).alloc (Nat.le_refl _) _
        have hown := (hrow.now hal).own hg
        go_wp2_with (at_builtin; go_loud (refine wpList_append_own _ rfl _ _ 31 rfl w0.heap.size 9 i0 _ 1 16 Tryd.underlying31 hi0 hz0 hz1 hz2 rfl (by decide) _ ps.length _ rfl hown ⟨wr.heap.size, 0, none⟩ 1 1 [.string (bs [])] rfl rfl (fun j u hj => by (match j, hj with | 0, hj => (simp at hj; subst hj; exact World.cell?_alloc_at _ _ _ _ rfl) | j + 1, hj => simp at hj)) (fun u hu => by (simp at hu; subst hu; rfl)) (by unfold maxLen; omega) (by omega) (by simp; omega) ?_); intro v' w5 hown5 hgr5 _; obtain ⟨g5, cap5, rfl, hg5, hrow5⟩ := SRow.of_own (l := ps ++ [[]]) (by simpa using hown5) (by simp))
        have hb5 := (hbw.alloc hsz (.cells #[.string { data := #[] }] 9)).grown hgr5 (by simp; omega) (fun q hq => (hown.lt q hq).1)
        go_roundw
        case rel => exact ⟨k + 1, g5, cap5, by omega, by go_num, by rw [HN.out, List.length_append]; rfl, hg5, by rw [HN.out]; exact hrow5, hb5⟩
        case measure => simp [intOf]; omega
      · have hc' : l[k] ≠ 32 ∨ 3 ≤ ps.length := by
          by_cases h1 : l[k] = 32
          · exact Or.inr (by have : ¬ ps.length < 3 := fun h => hc ⟨h1, h⟩; omega)
          · exact Or.inl h1
        obtain ⟨m, hm⟩ : ∃ m, ps.length = m + 1 := ⟨ps.length - 1, by omega⟩
        have hmlt : m < ps.length := by omega
        have HN : Hid (prs (l.take (k + 1)) = ps.set m (ps[m] ++ [l[k]])) := Lib.hid (by rw [HT.out, stp_set hp1 hc']; simp only [hm, Nat.add_sub_cancel])
        obtain ⟨x0, hfz⟩ := hrow.at hmlt
        have f0 := hfz m
        have hpm := HPSk ps[m] (List.getElem_mem hmlt)
        rw [List.length_take] at hpm
        have hone : (l.take (k + 1)).drop k = [l[k]] := by rw [List.take_succ_eq_append_getElem hlt, List.drop_append_of_le_length (by simp; omega), List.drop_of_length_le (by rw [List.length_take]; omega)]; rfl
        have hsl : ∀ W, (Instr.slice 9 (.string (bs l)) (some (.int .i64 (k : Int))) (some (.int .i64 ((k : Int) + 1))) none).run Tryd.prog W = .ok (.string (bs [l[k]])) W := fun W => by
          rw [show ((k : Int) + 1) = ((k + 1 : Nat) : Int) by omega]
          rw [run_slice_string W _ _ .i64 .i64 (k : Int) ((k + 1 : Nat) : Int) Tryd.underlying9 (by omega) (by omega) (by rw [bs_size]; omega)]
          simp only [Int.toNat_natCast]
          rw [bs_extract, hone]
        clear hone
        have hq1 : ¬ 9223372036854775807 < ps[m].length + 1 := by omega
        have hset := hrow.set (ps[m] ++ [l[k]]) hmlt
        have HL3 : Hid ((ps.set m (ps[m] ++ [l[k]])).length = m + 1) := Lib.hid (by rw [List.length_set, hm])
        have hki : (k : Int) < (l.length : Int) := by omega
        have hn1 : IntKind.i64.wrap (m : Int) = (m : Int) := IntWalk.i64_in _ (by omega)
        have hn2 : IntKind.i64.wrap ((k : Int) + 1) = ((k + 1 : Nat) : Int) := by rw [IntWalk.i64_in _ (by omega)]; omega
        have hn3 : ((m : Int) < (m : Int) + 1) = True := by rw [eq_iff_iff, iff_true]; omega
        have hn4 : (k : Int) + 1 ≤ (l.length : Int) := by omega
        rw [hm]
        by_cases h32 : l[k] = 32
        · have c1 : ((l[k].toNat : Int) == 32) = true := by rw [h32]; decide
          have hm3 : ¬ (m : Int) + 1 < 3 := by
            have : ¬ ps.length < 3 := fun h => hc ⟨h32, h⟩
            omega
          have hd3 : decide ((m : Int) + 1 < 3) = false := decide_eq_false hm3
          clear hc' hc hm hp1 hp2 HT HPSk hfz h32
          go_wp2_with fail
          go_region_law (fail)
          go_wp2_with fail
          go_roundw
          case rel => exact ⟨k + 1, g, cap, by omega, by go_num, by rw [HN.out, HL3.out], hg, by rw [HN.out]; exact SRow.now hset (Below.refl _ _).drew, (hbw.setCell (p := ⟨g, m, none⟩) hg _).drew⟩
          case measure => simp [intOf]; omega
        · have c1 : ((l[k].toNat : Int) == 32) = false := by
            rw [beq_eq_false_iff_ne]; intro h; exact h32 (UInt8.toNat_inj.1 (by simpa using (by exact_mod_cast h : l[k].toNat = 32)))
          clear hc' hc hm hp1 hp2 HT HPSk hfz h32
          go_wp2_with fail
          go_region_law (fail)
          go_wp2_with fail
          go_roundw
          case rel => exact ⟨k + 1, g, cap, by omega, by go_num, by rw [HN.out, HL3.out], hg, by rw [HN.out]; exact SRow.now hset (Below.refl _ _).drew, (hbw.setCell (p := ⟨g, m, none⟩) hg _).drew⟩
          case measure => simp [intOf]; omega
    · obtain rfl : k = l.length := by omega
      rw [List.take_length] at *
      clear HPS HPL
      have hblkr := hblk.now hbw
      have hB1 : Below w.heap.size w wr := bel_then hba (Nat.le_of_lt hz0w) hbw
      have c0 : wr.cell? ⟨w.heap.size, 0, none⟩ = some (.int .i64 0) := hblkr.cell 0
      have c1 : wr.cell? ⟨w.heap.size, 1, none⟩ = some (.string { data := #[] }) := hblkr.cell 1
      have c2 : wr.cell? ⟨w.heap.size, 2, none⟩ = some (.int .u64 0) := hblkr.cell 2
      have f0 : wr.frozen? ⟨w.heap.size, 0, none⟩ = false := hblkr.free 0
      have f1 : wr.frozen? ⟨w.heap.size, 1, none⟩ = false := hblkr.free 1
      have f2 : wr.frozen? ⟨w.heap.size, 2, none⟩ = false := hblkr.free 2
      rcases at_or 32 l with h1 | ⟨a, r, hl1, h1⟩
      · have HF := Lib.hid (entF_no h1)
        have hps := prs_no h1
        have hn : (prs l).length = 1 := by rw [hps]; rfl
        rw [hn]
        clear h1 hps hrow hn hp1 hp2
        go_wp2_with fail
        exact bodyPost_ret (v := .tuple #[.agg #[.int .i64 0, .string { data := #[] }, .int .u64 0], .bool false]) (by simp [results, Tryd.results34, go_sem, c0, c1, c2]) rfl (epost_no HF.out rfl (((hB1.setCell (p := ⟨w.heap.size, 0, none⟩) (Nat.le_refl _) _).setCell (p := ⟨w.heap.size, 1, none⟩) (Nat.le_refl _) _).setCell (p := ⟨w.heap.size, 2, none⟩) (Nat.le_refl _) _))
      · rcases at_or 32 r with h2 | ⟨b, c, hr1, h2⟩
        · have HF : Hid (entF l = none) := Lib.hid (by rw [hl1]; exact entF_one h1 h2)
          have hps : prs l = [a, r] := by rw [hl1]; exact prs_one h1 h2
          have hn : (prs l).length = 2 := by rw [hps]; rfl
          rw [hn]
          clear h1 hps hrow hn hp1 hp2 hl1
          go_wp2_with fail
          exact bodyPost_ret (v := .tuple #[.agg #[.int .i64 0, .string { data := #[] }, .int .u64 0], .bool false]) (by simp [results, Tryd.results34, go_sem, c0, c1, c2]) rfl (epost_no HF.out rfl (((hB1.setCell (p := ⟨w.heap.size, 0, none⟩) (Nat.le_refl _) _).setCell (p := ⟨w.heap.size, 1, none⟩) (Nat.le_refl _) _).setCell (p := ⟨w.heap.size, 2, none⟩) (Nat.le_refl _) _))
        · subst hr1
          have HE : Hid (entF l = entF (a ++ 32 :: (b ++ 32 :: c))) := Lib.hid (by rw [hl1])
          have hps : prs l = [a, b, c] := by rw [hl1]; exact prs_two c h1 h2
          have hal : a.length ≤ 1000000 := by rw [hl1] at hs; simp at hs; omega
          have hbl : b.length ≤ 1000000 := by rw [hl1] at hs; simp at hs; omega
          have hcl : c.length ≤ 1000000 := by rw [hl1] at hs; simp at hs; omega
          rw [hps] at hrow ⊢
          have x0 : wr.cell? ⟨g, 0, none⟩ = some (.string (bs a)) := (hrow.at (i := 0) (by simp)).1
          have x1 : wr.cell? ⟨g, 1, none⟩ = some (.string (bs b)) := (hrow.at (i := 1) (by simp)).1
          have x2 : wr.cell? ⟨g, 2, none⟩ = some (.string (bs c)) := (hrow.at (i := 2) (by simp)).1
          clear hps hp1 hp2 hl1
          cases hia : intF a with
          | mk n x =>
          have hni : I64n n := by have := intF_i64 a; rw [hia] at this; exact this
          have HI : Hid (∀ W : World, Calls Tryd.prog 43 #[.string (bs a)] W fun e w' => e = .returned (.tuple #[.int .i64 n, .int .i64 x]) ∧ W = w') := Lib.hid fun W => by
            have := rint_any a W (by unfold maxLen; omega)
            rw [hia] at this
            exact this
          by_cases h16 : b.length = 16
          · have hd : ((b.length : Int) != 16) = false := by simp; omega
            have hal3 : Below wr.heap.size wr (wr.alloc (.cells #[.int .i64 0, .string (bs c), .int .u64 0] 37)) := (Below.refl _ _).alloc (Nat.le_refl _) _
            have hbx : Blk (wr.alloc (.cells #[.int .i64 0, .string (bs c), .int .u64 0] 37)) wr.heap.size 37 #[.int .i64 0, .string (bs c), .int .u64 0] := Blk.new _ _ _ _ rfl
            go_upto_region 11 with (fail)
            generalize wr.alloc (.cells #[.int .i64 0, .string (bs c), .int .u64 0] 37) = w3 at *
            have hrow3 := hrow.now hal3
            have hblk3 := hblkr.now hal3
            have hB3 := bel_then hB1 hB1.size hal3
            have hgx : g ≠ wr.heap.size := by omega
            have hrx : w.heap.size ≠ wr.heap.size := by omega
            have hxw : w.heap.size ≤ wr.heap.size := hB1.size
            generalize wr.heap.size = gx at *
            clear c0 c1 c2 f0 f1 f2 x0 x1 x2 hblkr hrow hbw hal3
            have c0 : w3.cell? ⟨w.heap.size, 0, none⟩ = some (.int .i64 0) := hblk3.cell 0
            have c1 : w3.cell? ⟨w.heap.size, 1, none⟩ = some (.string { data := #[] }) := hblk3.cell 1
            have c2 : w3.cell? ⟨w.heap.size, 2, none⟩ = some (.int .u64 0) := hblk3.cell 2
            have f0 : w3.frozen? ⟨w.heap.size, 0, none⟩ = false := hblk3.free 0
            have f1 : w3.frozen? ⟨w.heap.size, 1, none⟩ = false := hblk3.free 1
            have f2 : w3.frozen? ⟨w.heap.size, 2, none⟩ = false := hblk3.free 2
            have x0 : w3.cell? ⟨g, 0, none⟩ = some (.string (bs a)) := (hrow3.at (i := 0) (by simp)).1
            have y0 : w3.cell? ⟨gx, 0, none⟩ = some (.int .i64 0) := hbx.cell 0
            have y1 : w3.cell? ⟨gx, 1, none⟩ = some (.string (bs c)) := hbx.cell 1
            have g0 : w3.frozen? ⟨gx, 0, none⟩ = false := hbx.free 0
            unfold I64n at hni
            by_cases hx : x = 0
            · subst hx
              cases htm : tmB n with
              | false =>
                have HF : Hid (entF l = none) := Lib.hid (by rw [HE.out]; exact entF_bad h1 h2 hia (Or.inr (Or.inl htm)))
                have ht : n < 0 ∨ 1073741824 < n := by
                  have : ¬ (0 ≤ n ∧ n ≤ 1073741824) := fun h => by rw [tmB_iff.2 h] at htm; cases htm
                  omega
                clear htm hia
                rcases ht with ht | ht
                · go_wp2_with fail
                  refine (HI.out _).mono ?_
                  rintro e w4 ⟨rfl, rfl⟩
                  go_wp2_with fail
                  exact bodyPost_ret (v := .tuple #[.agg #[.int .i64 0, .string { data := #[] }, .int .u64 0], .bool false]) (by simp [results, Tryd.results34, go_sem, c0, c1, c2]) rfl (epost_no HF.out rfl (((hB3.setCell (p := ⟨w.heap.size, 0, none⟩) (Nat.le_refl _) _).setCell (p := ⟨w.heap.size, 1, none⟩) (Nat.le_refl _) _).setCell (p := ⟨w.heap.size, 2, none⟩) (Nat.le_refl _) _))
                · go_wp2_with fail
                  refine (HI.out _).mono ?_
                  rintro e w4 ⟨rfl, rfl⟩
                  go_wp2_with fail
                  exact bodyPost_ret (v := .tuple #[.agg #[.int .i64 0, .string { data := #[] }, .int .u64 0], .bool false]) (by simp [results, Tryd.results34, go_sem, c0, c1, c2]) rfl (epost_no HF.out rfl (((hB3.setCell (p := ⟨w.heap.size, 0, none⟩) (Nat.le_refl _) _).setCell (p := ⟨w.heap.size, 1, none⟩) (Nat.le_refl _) _).setCell (p := ⟨w.heap.size, 2, none⟩) (Nat.le_refl _) _))
              | true =>
                have ht := tmB_iff.1 htm
                obtain ⟨ht1, ht2⟩ := ht
                cases hlg : legB c with
                | false =>
                  have HF : Hid (entF l = none) := Lib.hid (by rw [HE.out]; exact entF_bad h1 h2 hia (Or.inr (Or.inr (Or.inr hlg))))
                  have HG := Lib.hid hlg
                  clear htm hia hlg
                  go_wp2_with fail
                  refine (HI.out _).mono ?_
                  rintro e w4 ⟨rfl, rfl⟩
                  go_wp2_with fail
                  refine (rtextC HG.out _ (by unfold maxLen; omega)).mono ?_
                  rintro e w4 ⟨rfl, rfl⟩
                  go_wp2_with fail
                  exact bodyPost_ret (v := .tuple #[.agg #[.int .i64 0, .string { data := #[] }, .int .u64 0], .bool false]) (by simp [results, Tryd.results34, go_sem, c0, c1, c2]) rfl (epost_no HF.out rfl (((hB3.setCell (p := ⟨w.heap.size, 0, none⟩) (Nat.le_refl _) _).setCell (p := ⟨w.heap.size, 1, none⟩) (Nat.le_refl _) _).setCell (p := ⟨w.heap.size, 2, none⟩) (Nat.le_refl _) _))
                | true =>
                  have HF0 : Hid (entF l = (hexV 0 b).map fun v => ⟨n, c, v⟩) := Lib.hid (by rw [HE.out]; exact entF_good h1 h2 hia htm h16 hlg)
                  have HG := Lib.hid hlg
                  clear htm hia hlg
                  go_wp2_with fail
                  refine (HI.out _).mono ?_
                  rintro e w4 ⟨rfl, rfl⟩
                  go_wp2_with fail
                  refine (rtextC HG.out _ (by unfold maxLen; omega)).mono ?_
                  rintro e w4 ⟨rfl, rfl⟩
                  have hbx4 := hbx.set 0 (.int .i64 n)
                  have hrow4 := hrow3.far hgx (u := .int .i64 n) (j := 0)
                  have hblk4 := hblk3.far (p := ⟨gx, 0, none⟩) hrx (.int .i64 n)
                  have hB4 := hB3.setCell (p := ⟨gx, 0, none⟩) hxw (.int .i64 n)
                  go_wp2_with fail
                  generalize w3.setCell ⟨gx, 0, none⟩ (.int .i64 n) = w4 at *
                  clear hbx hrow3 hblk3 hB3 c0 c1 c2 f0 f1 f2 x0 y0 y1 g0
                  have HL := Lib.hid h16
                  clear HI hd hal hbl hs HE HG
                  go_loopw [9] (fun i wq => ∃ (k v : Nat) (W : World), W = wq ∧ k ≤ 16 ∧ i = .int .i64 k ∧ v < 16 ^ k ∧ Blk W gx 37 #[.int .i64 n, .string (bs c), .int .u64 (v : Int)] ∧ SRow W 9 g cap [a, b, c] ∧ Blk W w.heap.size 37 #[.int .i64 0, .string { data := #[] }, .int .u64 0] ∧ Below w.heap.size w W ∧ Hid (hexV 0 (b.take k) = some v)) (fun i _ => 16 - (intOf i).toNat)
                  case atStart => exact ⟨0, 0, w4, rfl, by omega, rfl, by decide, hbx4, hrow4, hblk4, hB4, Lib.hid (by simp [hexV])⟩
                  case round =>
                    obtain ⟨k, v, W, rfl, hk, rfl, hv, hbx, hrow, hblkW, hBW, HV⟩ := hrel
                    clear hbx4 hrow4 hblk4 hB4
                    have q2 : W.cell? ⟨gx, 2, none⟩ = some (.int .u64 (v : Int)) := hbx.cell 2
                    have q1 : W.cell? ⟨gx, 1, none⟩ = some (.string (bs c)) := hbx.cell 1
                    have q0 : W.cell? ⟨gx, 0, none⟩ = some (.int .i64 n) := hbx.cell 0
                    have g2 : W.frozen? ⟨gx, 2, none⟩ = false := hbx.free 2
                    by_cases hlt : k < 16
                    · have hkb : k < b.length := by rw [HL.out]; exact hlt
                      have hkbi : (k : Int) < (b.length : Int) := by omega
                      have hv2 : v < 1152921504606846976 := Nat.lt_of_lt_of_le hv (pow16 k hlt)
                      have hn1 : 16 ^ (k + 1) = 16 ^ k * 16 := Nat.pow_succ ..
                      have hv3 : ∀ d, d < 16 → v * 16 + d < 16 ^ (k + 1) := fun d hd => by rw [hn1]; omega
                      have HV3 := Lib.hid hv3
                      clear hv3 hn1 hv
                      have HSn := Lib.hid fun (d : Nat) (h : hxd b[k] = some d) => (show hexV 0 (b.take (k + 1)) = some (v * 16 + d) by rw [hexV_snoc hkb HV.out, h]; rfl)
                      have HSt := Lib.hid fun (h : hxd b[k] = none) => hexV_stop hkb HV.out h
                      have HD := Lib.hid fun (q : Nat) (hq : q < 16) => dig_hxd (c := b[k]) hq
                      have HB16 := Lib.hid fun (d : Nat) (h : hxd b[k] = some d) => (hxd_some h).1
                      have hix : ∀ W', (Instr.index 9 (.string (bs b)) (.int .i64 (k : Int))).run Tryd.prog W' = .ok (.int .u8 (b[k].toNat : Int)) W' := fun W' => index_at hkb W'
                      generalize hcc : b[k].toNat = cc at hix
                      generalize b[k] = ch at *
                      have HCC := Lib.hid hcc
                      clear hcc
                      generalize hoo : hxd ch = o at *
                      clear hoo
                      go_wp2_with fail
                      go_loopw [10, 11] (fun dv iv wp => ∃ kk : Nat, kk ≤ 16 ∧ iv = .int .i64 kk ∧ dv = .int .i64 (dO o kk) ∧ Below W.heap.size W wp) (fun _ iv _ => 16 - (intOf iv).toNat)
                      case atStart => exact ⟨0, by omega, rfl, by rw [dO_zero], Below.refl _ _⟩
                      case round =>
                        obtain ⟨kk, hkk, rfl, rfl, hbp⟩ := hrel
                        by_cases hlk : kk < 16
                        · have hx1 : wr.cell? ⟨g, 1, none⟩ = some (.string (bs b)) := ((hrow.now hbp).at (i := 1) (by simp)).1
                          have hdg : ∀ W', (Instr.index 9 (.string { data := #[48, 49, 50, 51, 52, 53, 54, 55, 56, 57, 97, 98, 99, 100, 101, 102] }) (.int .i64 (kk : Int))).run Tryd.prog W' = .ok (.int .u8 ((Crc.dig kk).toNat : Int)) W' := fun W' => hexdigI kk hlk W'
                          have hkq := HD.out kk hlk
                          by_cases hq : o = some kk
                          · have ht : (((Crc.dig kk).toNat : Int) == (cc : Int)) = true := by rw [hkq.1 hq, HCC.out]; simp
                            have HN : Hid (dO o (kk + 1) = (kk : Int)) := Lib.hid (by rw [hq]; exact dO_lt (by omega))
                            generalize (Crc.dig kk).toNat = dg at *
                            clear hkq hq
                            go_wp2_with fail
                            go_quiet (fail)
                            go_wp2_with fail
                            go_roundw
                            case rel => exact ⟨kk + 1, by omega, by go_num, by rw [HN.out], Below.drewN hbp _⟩
                            case measure => simp [intOf]; omega
                          · have ht : (((Crc.dig kk).toNat : Int) == (cc : Int)) = false := by
                              rw [beq_eq_false_iff_ne]
                              intro h
                              refine hq (hkq.2 (UInt8.toNat_inj.1 ?_))
                              rw [HCC.out]
                              exact_mod_cast h
                            have HN : Hid (dO o (kk + 1) = dO o kk) := Lib.hid (dO_succ hq)
                            generalize (Crc.dig kk).toNat = dg at *
                            clear hkq hq
                            go_wp2_with fail
                            go_quiet (fail)
                            go_wp2_with fail
                            go_roundw
                            case rel => exact ⟨kk + 1, by omega, by go_num, by rw [HN.out], Below.drewN hbp _⟩
                            case measure => simp [intOf]; omega
                        · obtain rfl : kk = 16 := by omega
                          have hbx5 := hbx.now hbp
                          have hrow5 := hrow.now hbp
                          have hblk5 := hblkW.now hbp
                          have hB5 := bel_then hBW hBW.size hbp
                          have z2 : wr.cell? ⟨gx, 2, none⟩ = some (.int .u64 (v : Int)) := hbx5.cell 2
                          have g5 : wr.frozen? ⟨gx, 2, none⟩ = false := hbx5.free 2
                          have c0 : wr.cell? ⟨w.heap.size, 0, none⟩ = some (.int .i64 0) := hblk5.cell 0
                          have c1 : wr.cell? ⟨w.heap.size, 1, none⟩ = some (.string { data := #[] }) := hblk5.cell 1
                          have c2 : wr.cell? ⟨w.heap.size, 2, none⟩ = some (.int .u64 0) := hblk5.cell 2
                          have f0 : wr.frozen? ⟨w.heap.size, 0, none⟩ = false := hblk5.free 0
                          have f1 : wr.frozen? ⟨w.heap.size, 1, none⟩ = false := hblk5.free 1
                          have f2 : wr.frozen? ⟨w.heap.size, 2, none⟩ = false := hblk5.free 2
                          cases o with
                          | none =>
                            have HF : Hid (entF l = none) := Lib.hid (by rw [HF0.out, HSt.out rfl]; rfl)
                            have hdn : dO none 16 = -1 := rfl
                            rw [hdn]
                            clear hdn
                            go_wp2_with fail
                            exact bodyPost_ret (v := .tuple #[.agg #[.int .i64 0, .string { data := #[] }, .int .u64 0], .bool false]) (by simp [results, Tryd.results34, go_sem, c0, c1, c2]) rfl (epost_no HF.out rfl (((hB5.setCell (p := ⟨w.heap.size, 0, none⟩) (Nat.le_refl _) _).setCell (p := ⟨w.heap.size, 1, none⟩) (Nat.le_refl _) _).setCell (p := ⟨w.heap.size, 2, none⟩) (Nat.le_refl _) _))
                          | some d =>
                            have hd16 := HB16.out d rfl
                            have hdn : dO (some d) 16 = (d : Int) := dO_lt hd16
                            rw [hdn]
                            clear hdn
                            have hu1 : IntKind.u64.wrap ((v : Int) * 16) = (v : Int) * 16 := by rw [IntKind.wrap_u64]; omega
                            have hu2 : IntKind.u64.wrap (d : Int) = (d : Int) := by rw [IntKind.wrap_u64]; omega
                            have hu3 : IntKind.u64.wrap ((v : Int) * 16 + (d : Int)) = (v : Int) * 16 + (d : Int) := by rw [IntKind.wrap_u64]; omega
                            have HVd := HV3.out d hd16
                            have HN := Lib.hid (HSn.out d rfl)
                            have hbx6 := hbx5.set 2 (.int .u64 ((v * 16 + d : Nat) : Int))
                            have hrow6 := hrow5.far hgx (u := .int .u64 ((v * 16 + d : Nat) : Int)) (j := 2)
                            have hblk6 := hblk5.far (p := ⟨gx, 2, none⟩) hrx (.int .u64 ((v * 16 + d : Nat) : Int))
                            have hB6 := hB5.setCell (p := ⟨gx, 2, none⟩) hxw (.int .u64 ((v * 16 + d : Nat) : Int))
                            have hvd : ((v * 16 + d : Nat) : Int) = (v : Int) * 16 + (d : Int) := by omega
                            rw [hvd] at hbx6 hrow6 hblk6 hB6
                            go_wp2_with fail
                            go_roundw
                            case rel => exact ⟨k + 1, v * 16 + d, _, rfl, by omega, by go_num, HVd, by rw [hvd]; exact hbx6, hrow6, hblk6, hB6, HN⟩
                            case measure => simp [intOf]; omega
                    · obtain rfl : k = 16 := by omega
                      have HB : Hid (entF l = some ⟨n, c, v⟩) := Lib.hid (by
                        have := HV.out
                        rw [List.take_of_length_le (by rw [HL.out]; omega)] at this
                        rw [HF0.out, this]; rfl)
                      have c0 : W.cell? ⟨w.heap.size, 0, none⟩ = some (.int .i64 0) := hblkW.cell 0
                      have c1 : W.cell? ⟨w.heap.size, 1, none⟩ = some (.string { data := #[] }) := hblkW.cell 1
                      have c2 : W.cell? ⟨w.heap.size, 2, none⟩ = some (.int .u64 0) := hblkW.cell 2
                      have f0 : W.frozen? ⟨w.heap.size, 0, none⟩ = false := hblkW.free 0
                      have f1 : W.frozen? ⟨w.heap.size, 1, none⟩ = false := hblkW.free 1
                      have f2 : W.frozen? ⟨w.heap.size, 2, none⟩ = false := hblkW.free 2
                      go_wp2_with fail
                      exact bodyPost_ret (v := .tuple #[.agg #[.int .i64 n, .string (bs c), .int .u64 (v : Int)], .bool true]) (by simp [results, Tryd.results34, go_sem, c0, c1, c2]) rfl (epost_at HB.out rfl (((hBW.setCell (p := ⟨w.heap.size, 0, none⟩) (Nat.le_refl _) _).setCell (p := ⟨w.heap.size, 1, none⟩) (Nat.le_refl _) _).setCell (p := ⟨w.heap.size, 2, none⟩) (Nat.le_refl _) _))
            · have HF : Hid (entF l = none) := Lib.hid (by rw [HE.out]; exact entF_bad h1 h2 hia (Or.inl hx))
              have hxb : (x != 0) = true := by simpa using hx
              clear hia hx
              go_wp2_with fail
              refine (HI.out _).mono ?_
              rintro e w4 ⟨rfl, rfl⟩
              go_wp2_with fail
              exact bodyPost_ret (v := .tuple #[.agg #[.int .i64 0, .string { data := #[] }, .int .u64 0], .bool false]) (by simp [results, Tryd.results34, go_sem, c0, c1, c2]) rfl (epost_no HF.out rfl (((hB3.setCell (p := ⟨w.heap.size, 0, none⟩) (Nat.le_refl _) _).setCell (p := ⟨w.heap.size, 1, none⟩) (Nat.le_refl _) _).setCell (p := ⟨w.heap.size, 2, none⟩) (Nat.le_refl _) _))
          · have HF : Hid (entF l = none) := Lib.hid (by rw [HE.out]; exact entF_bad h1 h2 hia (Or.inr (Or.inr (Or.inl h16))))
            have hd : ((b.length : Int) != 16) = true := by simp; omega
            clear h16 hia
            go_wp2_with fail
            exact bodyPost_ret (v := .tuple #[.agg #[.int .i64 0, .string { data := #[] }, .int .u64 0], .bool false]) (by simp [results, Tryd.results34, go_sem, c0, c1, c2]) rfl (epost_no HF.out rfl (((hB1.setCell (p := ⟨w.heap.size, 0, none⟩) (Nat.le_refl _) _).setCell (p := ⟨w.heap.size, 1, none⟩) (Nat.le_refl _) _).setCell (p := ⟨w.heap.size, 2, none⟩) (Nat.le_refl _) _))
end Go.Proofs.YtnckainiphlndaaDoor
