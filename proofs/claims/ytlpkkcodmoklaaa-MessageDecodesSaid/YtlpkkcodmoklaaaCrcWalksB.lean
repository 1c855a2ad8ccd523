/- The walks of the reference's Seal and of crc.Open. -/
import Derived.Test.YtlpkkcodmoklaaaCrcWalksA
import Derived.Deep.QuietTactic
import Derived.BigQuiet
import Derived.Deep.RegionWith
namespace Go.Proofs.Ytlpkkcodmoklaaa
open Go.RowKit
attribute [local go_sem] bs_size bs_get bs_append bs_extract bs_toList bs_nil
set_option maxRecDepth 100000 in
theorem refSeal_any (l : List UInt8) (w : World) (hs : l.length ≤ 100000) :
    Calls Try.prog 23 #[.string (bs l)] w fun e w' => e = .returned (.string (bs (Crc.sealed l))) ∧ Below w.heap.size w w' := by
  have hlt := Crc.sum_lt l
  have hd : Crc.sealed l = l ++ Crc.tail (Crc.sum l) := rfl
  have htl := Crc.tail_length (Crc.sum l)
  go_enter Try.func23, Try.ntmps23
  go_wp2_with fail
  refine (refSum_any _ _ (by unfold maxLen; omega)).mono ?_
  rintro e w1 ⟨rfl, rfl⟩
  generalize Crc.sum l = n at hlt hd htl ⊢
  have ht := tail_nums n hlt
  have hcv : (convert 30 9 (.slice (some ⟨w.heap.size, 0, none⟩) 4 4)).run Try.prog (w.alloc (.cells #[.int .u8 ((n : Nat) / 16777216 : Int), .int .u8 ((n : Nat) / 65536 % 256 : Int), .int .u8 ((n : Nat) / 256 % 256 : Int), .int .u8 ((n : Nat) % 256 : Int)] 5)) = _ := conv_alloc w 30 5 9 5 Try.underlying30 Try.underlying5 Try.underlying9 [((n : Nat) / 16777216 : Int), ((n : Nat) / 65536 % 256 : Int), ((n : Nat) / 256 % 256 : Int), ((n : Nat) % 256 : Int)] 4 4 rfl
  rw [ht] at hcv
  generalize Crc.tail n = t at hcv htl ht hd
  have hle : t.length ≤ 4 := by omega
  have HD := Lib.hid hd
  clear ht htl hd
  go_wp2_with fail
  go_ret
  exact ⟨ret_v (by rw [HD.out]; rfl), (Below.refl _ _).alloc (Nat.le_refl _) _⟩
/-- What opening gives: the text and the error's number. -/
def openV (l : List UInt8) : ByteArray × Int := if l.length < 4 then (bs [], 5) else if l = Crc.sealed (Crc.body l) then (bs (Crc.body l), 0) else (bs [], 6)
theorem tail_eq (n : Nat) (h : n < 4294967296) (a b c d : UInt8) : (((a.toNat : Int) == (n : Int) / 16777216) && (((b.toNat : Int) == (n : Int) / 65536 % 256) && (((c.toNat : Int) == (n : Int) / 256 % 256) && ((d.toNat : Int) == (n : Int) % 256)))) = decide (Crc.tail n = [a, b, c, d]) := by
  have e : ∀ (m : Nat) (x : UInt8), UInt8.ofNat m = x ↔ m % 256 = x.toNat := fun m x => by
    rw [← UInt8.toNat_inj]; simp
  rw [Bool.eq_iff_iff]
  simp only [Bool.and_eq_true, beq_iff_eq, decide_eq_true_eq, Crc.tail, List.cons.injEq, and_true, e]
  omega
theorem cell_alloc_mark_at (w : World) (C : Array Value) (t : TypeId) (fr : Nat × Nat) (n j : Nat) (hn : n = w.heap.size) : (w.alloc (.cells C t fr)).cell? ⟨n, j, none⟩ = C[j]? := by
  subst hn
  exact World.cell?_alloc_mark w C t fr j
attribute [local go_sem] cell_alloc_mark_at
theorem info5 : ∃ i0, Try.prog.info? 5 = some i0 ∧ i0.size = 1 := by
  have h : (Try.prog.info? 5).map (·.size) = some 1 := by kernel_rfl
  cases hq : Try.prog.info? 5 with
  | none => rw [hq] at h; cases h
  | some i => rw [hq] at h; exact ⟨i, rfl, by simpa using h⟩
set_option maxRecDepth 100000 in
set_option maxHeartbeats 1000000 in
theorem open_any (l : List UInt8) (w : World) (hs : l.length ≤ 100000) :
    Calls Try.prog 25 #[.string (bs l)] w fun e w' => e = .returned (.tuple #[.string (openV l).1, .int .i64 (openV l).2]) ∧ Below w.heap.size w w' := by
  by_cases h4 : l.length < 4
  · go_enter Try.func25, Try.ntmps25
    go_wp2_with fail
    go_ret2
    exact ⟨by rw [openV, if_pos h4]; rfl, Below.refl _ _⟩
  · go_enter Try.func25, Try.ntmps25
    go_wp2_with fail
    go_quiet (fail)
    go_wp2_with fail
    have hlen : (l.take (l.length - 4)).length ≤ 100000 := by simp; omega
    generalize hbd : l.take (l.length - 4) = t at hlen
    have htl : (l.drop (l.length - 4)).length = 4 := by simp; omega
    generalize hdr : l.drop (l.length - 4) = d at htl
    have hb0 : Below w.heap.size w (w.drewN nq) := Below.drewN (Below.refl _ _) nq
    generalize w.drewN nq = w0 at hb0
    match d, htl with
    | [a, b, c, f], _ =>
    have hconv := fun W => run_bytes_of_string (P := Try.prog) W 9 30 5 (bs [a,b,c,f]) Try.underlying9 Try.underlying30 Try.underlying5
    have hat := fun W c => run_arrayAt (P := Try.prog) W 80 5 4 Try.underlying80 (some ⟨w0.heap.size, 0, none⟩) 4 c (by omega)
    have hat2 := fun W c => run_arrayAt (P := Try.prog) W 80 5 4 Try.underlying80 (some ⟨w0.heap.size + 1, 0, none⟩) 4 c (by omega)
    have hr0 := fun cap => bytesRow_get [a, b, c, f] cap 0 (by simp)
    have hr1 := fun cap => bytesRow_get [a, b, c, f] cap 1 (by simp)
    have hr2 := fun cap => bytesRow_get [a, b, c, f] cap 2 (by simp)
    have hr3 := fun cap => bytesRow_get [a, b, c, f] cap 3 (by simp)
    simp only [List.getElem_cons_zero, List.getElem_cons_succ] at hr0 hr1 hr2 hr3
    obtain ⟨i0, hi0, hi1⟩ : ∃ i0, Try.prog.info? 5 = some i0 ∧ i0.size = 1 := info5
    have heq0 := fun W => run_eq_arr4 (P := Try.prog) W 9998 Try.underlying80 Try.underlying5 hi0 hi1 a.toNat b.toNat c.toNat f.toNat ((Crc.sum t : Nat) / 16777216 : Int) ((Crc.sum t : Nat) / 65536 % 256 : Int) ((Crc.sum t : Nat) / 256 % 256 : Int) ((Crc.sum t : Nat) % 256 : Int)
    simp only [Nat.reduceAdd, tail_eq (Crc.sum t) (Crc.sum_lt t)] at heq0
    have hfin : openV l = if Crc.tail (Crc.sum t) = [a, b, c, f] then (bs t, 0) else (bs [], 6) := by
      unfold openV
      rw [if_neg h4]
      have e : l = t ++ [a, b, c, f] := by rw [← hbd, ← hdr, List.take_append_drop]
      unfold Crc.sealed Crc.body
      rw [hbd]
      by_cases h : Crc.tail (Crc.sum t) = [a, b, c, f]
      · rw [if_pos h, if_pos (by rw [h]; exact e)]
      · rw [if_neg h, if_neg (fun h' => h (by rw [e] at h'; exact (List.append_cancel_left h').symm))]
    have HF := Lib.hid hfin
    clear hfin hdr hbd
    by_cases hq : Crc.tail (Crc.sum t) = [a, b, c, f]
    all_goals
      simp only [hq, decide_true, decide_false] at heq0
      have HQ := Lib.hid hq
      clear hq
      go_region_with (go_at_call 67; refine (checksum_any _ _ (by unfold maxLen; omega)).mono ?_; rintro e w1 ⟨rfl, rfl⟩)
      all_goals
        go_wp2_with fail
        go_ret2
        refine ⟨?_, ?_⟩
        · rw [HF.out]
          first | rw [if_pos HQ.out] | rw [if_neg HQ.out]
          rfl
        · repeat' first | exact hb0 | exact hb0.size | refine Below.drew ?_ | refine Below.alloc ?_ ?_ _ | (simp; have := hb0.size; omega)
end Go.Proofs.Ytlpkkcodmoklaaa
