/- The walk of Encode: messages with an authority. -/
import Derived.Test.YtlpkkcodmoklaaaMsgEncB
namespace Go.Proofs.Ytlpkkcodmoklaaa
set_option linter.unusedVariables false
set_option linter.unusedSimpArgs false
open Go.RowKit
attribute [local go_sem] bs_size bs_get bs_append bs_extract bs_toList
theorem valid_lens {m : Msg} (hv : validB m = true) (h2 : carB m.kind = true) : m.prof.length ≤ 128 ∧ m.links.length ≤ 24 := by
  simp [validB, authB, grantB, h2, profB] at hv
  omega
set_option maxRecDepth 100000 in
set_option maxHeartbeats 2000000 in
theorem encode_auth (m : Msg) (A : Option Addr) (c : Nat) (A' : Option Addr) (c' : Nat) (w : World) (ok : m.Ok) (hp : RdS cSeg w w.heap.size A m.prof) (hl : RdS cLnk w w.heap.size A' m.links) (hv : validB m = true) (h1 : (m.kind == 1) = false) (h2 : carB m.kind = true) :
    Calls Try.prog 61 #[.agg #[.int .i64 m.kind, .int .i64 m.fro, .int .i64 m.to, .int .i64 m.seq, .int .i64 m.time, .int .i64 m.aseq, .int .i64 m.aend, .slice A m.prof.length c, .slice A' m.links.length c', .int .i64 m.min, .int .i64 m.speed, .int .i64 m.mode, .int .i64 m.acc, .bool m.whole]] w fun e w' => e = .returned (.string (bs (encM m))) ∧ Below w.heap.size w w' := by
  have e63 : maxLen ≤ 9223372036854775807 := by decide
  have hlp : m.prof.length ≤ 9223372036854775807 := Nat.le_trans ok.prof e63
  have hll : m.links.length ≤ 9223372036854775807 := Nat.le_trans ok.links e63
  have HE := Lib.hid (show encM m = Crc.sealed (headE m ++ authE m) by simp [encM, hv, cont, h1, h2])
  have HI1 := i64_5 ok.kind ok.fro ok.to ok.seq ok.time
  have hn1 := encIs_len5 HI1 (by simp)
  have HI2 := i64_2 ok.aseq ok.aend
  have hn2 := encIs_len5 HI2 (by simp)
  have hm := valid_lens hv h2
  have hn3 := Wire.enc_length m.prof.length (by omega)
  have hn4 := Wire.enc_length m.links.length (by omega)
  have HV := Lib.hid hv
  clear hv
  go_enter Try.func61, Try.ntmps61
  go_wp2_with fail
  refine (valid_any m A c A' c' _ hlp hll (hp.now (by (repeat' (first | (with_reducible exact Below.refl _ _) | (with_reducible assumption) | (with_reducible refine Below.drewN ?_ _) | (with_reducible refine Below.drew ?_) | (with_reducible refine Below.alloc ?_ ?_ _) | (with_reducible refine Below.setCell ?_ ?_ _) | (with_reducible exact Nat.le_refl _) | (with_reducible exact Below.size (by assumption)) | omega | (simp only [World.size_alloc, World.size_setCell, World.size_drew]; omega) | (simp; done) | (simp; omega))))) (hl.now (by (repeat' (first | (with_reducible exact Below.refl _ _) | (with_reducible assumption) | (with_reducible refine Below.drewN ?_ _) | (with_reducible refine Below.drew ?_) | (with_reducible refine Below.alloc ?_ ?_ _) | (with_reducible refine Below.setCell ?_ ?_ _) | (with_reducible exact Nat.le_refl _) | (with_reducible exact Below.size (by assumption)) | omega | (simp only [World.size_alloc, World.size_setCell, World.size_drew]; omega) | (simp; done) | (simp; omega)))))).mono ?_
  rintro e w1 ⟨rfl, hb1⟩
  have hB1 := bthru (w := w) hb1 (by (repeat' (first | (with_reducible exact Below.refl _ _) | (with_reducible assumption) | (with_reducible refine Below.drewN ?_ _) | (with_reducible refine Below.drew ?_) | (with_reducible refine Below.alloc ?_ ?_ _) | (with_reducible refine Below.setCell ?_ ?_ _) | (with_reducible exact Nat.le_refl _) | (with_reducible exact Below.size (by assumption)) | omega | (simp only [World.size_alloc, World.size_setCell, World.size_drew]; omega) | (simp; done) | (simp; omega))))
  have hc1 := bcell hb1
  have hz1 : w.heap.size < w1.heap.size := by have := hb1.size; rw [World.size_alloc] at this; omega
  rw [HV.out]
  go_wp2_with fail
  refine (write_any w1.heap.size w1.heap.size (w1.heap.size + 1) [] [m.kind, m.fro, m.to, m.seq, m.time] _ ((Bld.fresh w1).alloc _) (by simp; omega) (heap_new1 _ _ _) (by omega) HI1 (by simp) (by simp)).mono ?_
  rintro e w2 ⟨rfl, hbl, hb2, -⟩
  have hB2 : Below w1.heap.size w1 w2 := (((Below.refl _ _).alloc (Nat.le_refl _) _).alloc (by simp) _).trans hb2
  have hc2 := bcell hB2
  have hz2 := hB2.size
  have hs2 : w1.heap.size < w2.heap.size := by have := hb2.size; rw [World.size_alloc, World.size_alloc] at this; omega
  clear hb2
  go_wp2_with (go_at_call 81; refine (carries_any _ _).mono ?_; rintro e w' ⟨rfl, rfl⟩)
  refine (write_any w1.heap.size w1.heap.size w2.heap.size ([] ++ Wire.encIs [m.kind, m.fro, m.to, m.seq, m.time]) [m.aseq, m.aend] _ (hbl.alloc _) (by simp; omega) (heap_new _ _) (by omega) HI2 (by simp) (by rw [List.nil_append]; omega)).mono ?_
  rintro e w3 ⟨rfl, hbl3, hb3, -⟩
  have hB3 : Below w1.heap.size w1 w3 := (hB2.alloc hB2.size _).trans hb3
  have hc3 := bcell hB3
  have hz3 : w2.heap.size < w3.heap.size := by have := hb3.size; rw [World.size_alloc] at this; omega
  clear hb3 hc2
  rw [List.nil_append] at hbl3
  generalize hpre : Wire.encIs [m.kind, m.fro, m.to, m.seq, m.time] ++ Wire.encIs [m.aseq, m.aend] = pre at hbl3
  have hpl : pre.length ≤ 200 := by rw [← hpre, List.length_append]; omega
  have HPRE := Lib.hid hpre
  clear hpre hbl
  go_wp2_with fail
  refine (uint_any m.prof.length _ (by omega)).mono ?_
  rintro e w4 ⟨rfl, hb4⟩
  have hB4 := hB3.trans (hb4.mono (by omega))
  have hc4 := bcell hB4
  have hz4 := hb4.size
  have hbl4 := bld_below hbl3 hb4
  clear hc3 hbl3 hb4
  go_wp2_with fail
  refine (writeString_any w1.heap.size w1.heap.size _ (Wire.enc m.prof.length) _ hbl4 (by omega) (by omega)).mono ?_
  rintro e w5 ⟨rfl, hbl5, hb5, -⟩
  have hB5 := hB4.trans hb5
  have hc5 := bcell hB5
  have hz5 := hb5.size
  clear hc4 hbl4 hb5
  go_wp2_with fail
  have hp1 := (hp.below hB1).more (Nat.le_of_lt hz1)
  have hl1 := (hl.below hB1).more (Nat.le_of_lt hz1)
  have hok := hp1.oks
  have hol := hl1.oks
  have HFL := Lib.hid (fun k hk => flat_take_len segE m.prof k hk (fun i hi => segE_len (hok i hi)))
  have HGL := Lib.hid (fun k hk => flat_take_len lnkE m.links k hk (fun i hi => lnkE_len (hol i hi)))
  clear hok hol hp hl
  go_loopw [49] (fun i wr => ∃ k : Nat, k ≤ m.prof.length ∧ i = .int .i64 k ∧ Bld w1.heap.size w1.heap.size (pre ++ Wire.enc m.prof.length ++ (m.prof.take k).flatMap segE) wr ∧ Below w1.heap.size w1 wr ∧ w1.heap.size < wr.heap.size) (fun i _ => (m.prof.length - intOf i).toNat)
  case atStart => exact ⟨0, by omega, rfl, by simpa using hbl5, hB5, by omega⟩
  case round =>
    obtain ⟨k, hk, rfl, hblr, hbr, hz⟩ := hrel
    by_cases hlt : k < m.prof.length
    · obtain ⟨p, off, rfl, hpb, hok, x1, x2, x3, x4⟩ := seg_at (hp1.below hbr) hlt
      have HT := Lib.hid (flat_take segE m.prof k hlt)
      have hfl := HFL.out k hk
      clear hp1 hl1 hc1 hc5
      generalize m.prof[k] = x at x1 x2 x3 x4 HT hok
      generalize (m.prof.take k).flatMap segE = done at hblr hfl HT
      obtain ⟨p1, p2, p3, p4⟩ := x
      have HI4 := i64_4 hok.1 hok.2.1 hok.2.2.1 hok.2.2.2
      have hpw : p < wr.heap.size := by omega
      go_wp2_with fail
      refine (write_any w1.heap.size w1.heap.size (wr.heap.size + 1) (pre ++ Wire.enc m.prof.length ++ done) [p1, p2, p3, p4] _ ((hblr.alloc _).alloc _) (by simp; omega) (heap_new1 _ _ _) (by omega) HI4 (by simp) (by simp only [List.length_append]; omega)).mono ?_
      rintro e w6 ⟨rfl, hbl6, hb6, -⟩
      go_wp2_with fail
      go_roundw
      case rel => exact ⟨k + 1, by omega, by go_num, by rw [HT.out, ← List.append_assoc]; exact hbl6, ((hbr.alloc (by omega) _).alloc (by simp; omega) _).trans hb6, by have := hb6.size; simp at this; omega⟩
      case measure => simp [intOf] <;> omega
    · have hta : m.prof.take k = m.prof := List.take_of_length_le (by omega)
      rw [hta] at hblr
      have hfl := HFL.out m.prof.length (Nat.le_refl _)
      rw [List.take_length] at hfl
      generalize hd : m.prof.flatMap segE = done at hblr hfl
      have HD := Lib.hid hd
      clear hd
      have hc6 : ∀ o, wr.cell? ⟨w.heap.size, o, none⟩ = w1.cell? ⟨w.heap.size, o, none⟩ := fun o => hbr.cell (p := ⟨w.heap.size, o, none⟩) hz1
      clear hc5
      go_wp2_with fail
      refine (uint_any m.links.length _ (by omega)).mono ?_
      rintro e w6 ⟨rfl, hb6⟩
      have hB6 := hbr.trans (hb6.mono (by omega))
      have hc7 : ∀ o, w6.cell? ⟨w.heap.size, o, none⟩ = w1.cell? ⟨w.heap.size, o, none⟩ := fun o => hB6.cell (p := ⟨w.heap.size, o, none⟩) hz1
      have hz6 := hb6.size
      have hbl6 := bld_below hblr hb6
      clear hc6 hblr hb6
      go_wp2_with fail
      refine (writeString_any w1.heap.size w1.heap.size _ (Wire.enc m.links.length) _ hbl6 (by simp only [List.length_append]; omega) (by omega)).mono ?_
      rintro e w7 ⟨rfl, hbl7, hb7, -⟩
      have hB7 := hB6.trans hb7
      have hc8 : ∀ o, w7.cell? ⟨w.heap.size, o, none⟩ = w1.cell? ⟨w.heap.size, o, none⟩ := fun o => hB7.cell (p := ⟨w.heap.size, o, none⟩) hz1
      have hz7 := hb7.size
      clear hc7 hbl6 hb7
      generalize hpre2 : pre ++ Wire.enc m.prof.length ++ done ++ Wire.enc m.links.length = pre2 at hbl7
      have hpl2 : pre2.length ≤ 14000 := by rw [← hpre2]; simp only [List.length_append]; omega
      have HPRE2 := Lib.hid hpre2
      clear hpre2
      go_wp2_with fail
      go_loopw [76] (fun i wr => ∃ k : Nat, k ≤ m.links.length ∧ i = .int .i64 k ∧ Bld w1.heap.size w1.heap.size (pre2 ++ (m.links.take k).flatMap lnkE) wr ∧ Below w1.heap.size w1 wr ∧ w1.heap.size < wr.heap.size) (fun i _ => (m.links.length - intOf i).toNat)
      case atStart => exact ⟨0, by omega, rfl, by simpa using hbl7, hB7, by omega⟩
      case round =>
        rename_i wo _
        clear hbr hz hz6 hz7 hB6 hB7 hc8 hbl7
        obtain ⟨k, hk, rfl, hblr, hbr, hz⟩ := hrel
        by_cases hlt : k < m.links.length
        · obtain ⟨p, off, rfl, hpb, hok, x1, x2⟩ := lnk_at (hl1.below hbr) hlt
          have HT := Lib.hid (flat_take lnkE m.links k hlt)
          have hgl := HGL.out k hk
          clear hp1 hl1 hc1
          generalize m.links[k] = x at x1 x2 HT hok
          generalize (m.links.take k).flatMap lnkE = done2 at hblr hgl HT
          obtain ⟨p1, p2⟩ := x
          have HI4 := i64_2 hok.1 hok.2
          go_wp2_with fail
          refine (write_any w1.heap.size w1.heap.size _ (pre2 ++ done2) [p1, p2] _ ((hblr.alloc _).alloc _) (by simp; omega) (heap_new1 _ _ _) (by omega) HI4 (by simp) (by simp only [List.length_append]; omega)).mono ?_
          rintro e w8 ⟨rfl, hbl8, hb8, -⟩
          go_wp2_with fail
          go_roundw
          case rel => exact ⟨k + 1, by omega, by go_num, by rw [HT.out, ← List.append_assoc]; exact hbl8, ((hbr.alloc (by omega) _).alloc (by simp; omega) _).trans hb8, by have := hb8.size; simp at this; omega⟩
          case measure => simp [intOf] <;> omega
        · have hta : m.links.take k = m.links := List.take_of_length_le (by omega)
          rw [hta] at hblr
          have hgl := HGL.out m.links.length (Nat.le_refl _)
          rw [List.take_length] at hgl
          have HG2 := Lib.hid (rfl : m.links.flatMap lnkE = m.links.flatMap lnkE)
          generalize hd2 : m.links.flatMap lnkE = done2 at hblr hgl
          have HD2 := Lib.hid hd2
          clear hd2 HG2
          have hc9 := fun o => hbr.cell (p := ⟨w.heap.size, o, none⟩) hz1
          go_wp2_with fail
          refine (builderString_any _ _ _ _ hblr (by omega)).mono ?_
          rintro e w9 ⟨rfl, hb9⟩
          go_wp2_with fail
          refine (seal_any _ _ (by simp only [List.length_append]; omega)).mono ?_
          rintro e w10 ⟨rfl, hb10⟩
          go_wp2_with fail
          go_ret
          refine ⟨?_, (hB1.trans (hbr.mono hB1.size)).trans ((hb9.mono hB1.size).trans (hb10.mono (by have := hb9.size; omega)))⟩
          rw [HE.out, ← HD2.out, ← HPRE2.out, ← HD.out, ← HPRE.out]
          simp [headE, authE, segsE, lnksE, List.append_assoc]
end Go.Proofs.Ytlpkkcodmoklaaa
