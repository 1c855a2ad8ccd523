/- The walk of Encode. -/
import Derived.Test.YtlpkkcodmoklaaaMsgEncA
import Derived.Test.YtlpkkcodmoklaaaMsgWalksB
import Derived.Test.YtlpkkcodmoklaaaCrcWalksB
namespace Go.Proofs.Ytlpkkcodmoklaaa
set_option linter.unusedVariables false
set_option linter.unusedSimpArgs false
open Go.RowKit
attribute [local go_sem] bs_size bs_get bs_append bs_extract bs_toList
theorem heap_new (w : World) (o : Obj) : (w.alloc o).heap[w.heap.size]? = some o := heap_alloc_new w o
theorem heap_new1 (w : World) (o o' : Obj) : ((w.alloc o).alloc o').heap[w.heap.size + 1]? = some o' := by
  have := heap_alloc_new (w.alloc o) o'
  rw [World.size_alloc] at this
  exact this
theorem i64_5 {a b c d e : Int} (ha : I64n a) (hb : I64n b) (hc : I64n c) (hd : I64n d) (he : I64n e) : I64 [a, b, c, d, e] := by
  intro n hn
  simp at hn
  rcases hn with rfl | rfl | rfl | rfl | rfl <;> assumption
theorem i64_4 {a b c d : Int} (ha : I64n a) (hb : I64n b) (hc : I64n c) (hd : I64n d) : I64 [a, b, c, d] := by
  intro n hn
  simp at hn
  rcases hn with rfl | rfl | rfl | rfl <;> assumption
theorem i64_2 {a b : Int} (ha : I64n a) (hb : I64n b) : I64 [a, b] := by
  intro n hn
  simp at hn
  rcases hn with rfl | rfl <;> assumption
theorem encIs_len5 {L : List Int} (hI : I64 L) (hL : L.length ≤ 10) : (Wire.encIs L).length ≤ 100 := by
  have := Wire.encIs_length L hI
  omega
theorem segE_len {s : Seg} (h : Seg.ok s) : (segE s).length ≤ 100 := encIs_len5 (i64_4 h.1 h.2.1 h.2.2.1 h.2.2.2) (by simp)
theorem lnkE_len {s : Lnk} (h : Lnk.ok s) : (lnkE s).length ≤ 100 := encIs_len5 (i64_2 h.1 h.2) (by simp)
theorem flat_len {α : Type} (f : α → List UInt8) : ∀ (l : List α), (∀ x ∈ l, (f x).length ≤ 100) → (l.flatMap f).length ≤ 100 * l.length
  | [], _ => by simp
  | x :: r, h => by
    have h1 := h x (by simp)
    have h2 := flat_len f r (fun y hy => h y (by simp [hy]))
    simp only [List.flatMap_cons, List.length_append, List.length_cons]
    omega
theorem flat_take {α : Type} (f : α → List UInt8) (l : List α) (k : Nat) (h : k < l.length) : (l.take (k + 1)).flatMap f = (l.take k).flatMap f ++ f l[k] := by
  rw [List.take_succ_eq_append_getElem h, List.flatMap_append]
  simp
/-- What a part of a row adds, in bytes. -/
theorem flat_take_len {α : Type} (f : α → List UInt8) (l : List α) (k : Nat) (hk : k ≤ l.length) (h : ∀ (i : Nat) (hi : i < l.length), (f l[i]).length ≤ 100) : ((l.take k).flatMap f).length ≤ 100 * k := by
  have h1 := flat_len f (l.take k) (fun x hx => by
    obtain ⟨i, hi, rfl⟩ := List.getElem_of_mem (List.mem_of_mem_take hx)
    exact h i hi)
  have h2 : (l.take k).length ≤ k := List.length_take_le _ _
  omega
/-- The numbers of every element of a row fit. -/
theorem RdS.oks {α : Type} {n : Nat} {cells : α → List Value} {ok : α → Prop} {hn : ∀ a, (cells a).length = n} {w : World} {B : Nat} {A : Option Addr} {l : List α} (h : RdS (cF n cells ok hn) w B A l) (i : Nat) (hi : i < l.length) : ok l[i] := by
  obtain ⟨_, _, _, _, h, _⟩ := RdS.at h hi
  exact h
set_option maxRecDepth 100000 in
set_option maxHeartbeats 2000000 in
theorem encode_no (m : Msg) (A : Option Addr) (c : Nat) (A' : Option Addr) (c' : Nat) (w : World) (ok : m.Ok) (hp : RdS cSeg w w.heap.size A m.prof) (hl : RdS cLnk w w.heap.size A' m.links) (hv : validB m = false) :
    Calls Try.prog 61 #[.agg #[.int .i64 m.kind, .int .i64 m.fro, .int .i64 m.to, .int .i64 m.seq, .int .i64 m.time, .int .i64 m.aseq, .int .i64 m.aend, .slice A m.prof.length c, .slice A' m.links.length c', .int .i64 m.min, .int .i64 m.speed, .int .i64 m.mode, .int .i64 m.acc, .bool m.whole]] w fun e w' => e = .returned (.string (bs (encM m))) ∧ Below w.heap.size w w' := by
  have e63 : maxLen ≤ 9223372036854775807 := by decide
  have hlp : m.prof.length ≤ 9223372036854775807 := Nat.le_trans ok.prof e63
  have hll : m.links.length ≤ 9223372036854775807 := Nat.le_trans ok.links e63
  have HE := Lib.hid (show encM m = [] by simp [encM, hv])
  have HV := Lib.hid hv
  clear hv
  go_enter Try.func61, Try.ntmps61
  go_wp2_with fail
  refine (valid_any m A c A' c' _ hlp hll (hp.now (by (repeat' (first | (with_reducible exact Below.refl _ _) | (with_reducible assumption) | (with_reducible refine Below.drewN ?_ _) | (with_reducible refine Below.drew ?_) | (with_reducible refine Below.alloc ?_ ?_ _) | (with_reducible refine Below.setCell ?_ ?_ _) | (with_reducible exact Nat.le_refl _) | (with_reducible exact Below.size (by assumption)) | omega | (simp only [World.size_alloc, World.size_setCell, World.size_drew]; omega) | (simp; done) | (simp; omega))))) (hl.now (by (repeat' (first | (with_reducible exact Below.refl _ _) | (with_reducible assumption) | (with_reducible refine Below.drewN ?_ _) | (with_reducible refine Below.drew ?_) | (with_reducible refine Below.alloc ?_ ?_ _) | (with_reducible refine Below.setCell ?_ ?_ _) | (with_reducible exact Nat.le_refl _) | (with_reducible exact Below.size (by assumption)) | omega | (simp only [World.size_alloc, World.size_setCell, World.size_drew]; omega) | (simp; done) | (simp; omega)))))).mono ?_
  rintro e w1 ⟨rfl, hb1⟩
  have hB1 := bthru (w := w) hb1 (by (repeat' (first | (with_reducible exact Below.refl _ _) | (with_reducible assumption) | (with_reducible refine Below.drewN ?_ _) | (with_reducible refine Below.drew ?_) | (with_reducible refine Below.alloc ?_ ?_ _) | (with_reducible refine Below.setCell ?_ ?_ _) | (with_reducible exact Nat.le_refl _) | (with_reducible exact Below.size (by assumption)) | omega | (simp only [World.size_alloc, World.size_setCell, World.size_drew]; omega) | (simp; done) | (simp; omega))))
  have hc1 := bcell hb1
  have hz1 : w.heap.size < w1.heap.size := by have := hb1.size; rw [World.size_alloc] at this; omega
  rw [HV.out]
  go_wp2_with fail
  go_ret
  exact ⟨by rw [HE.out]; rfl, hB1⟩
set_option maxRecDepth 100000 in
set_option maxHeartbeats 2000000 in
theorem encode_rest (m : Msg) (A : Option Addr) (c : Nat) (A' : Option Addr) (c' : Nat) (w : World) (ok : m.Ok) (hp : RdS cSeg w w.heap.size A m.prof) (hl : RdS cLnk w w.heap.size A' m.links) (hv : validB m = true) (h1 : (m.kind == 1) = false) (h2 : carB m.kind = false) :
    Calls Try.prog 61 #[.agg #[.int .i64 m.kind, .int .i64 m.fro, .int .i64 m.to, .int .i64 m.seq, .int .i64 m.time, .int .i64 m.aseq, .int .i64 m.aend, .slice A m.prof.length c, .slice A' m.links.length c', .int .i64 m.min, .int .i64 m.speed, .int .i64 m.mode, .int .i64 m.acc, .bool m.whole]] w fun e w' => e = .returned (.string (bs (encM m))) ∧ Below w.heap.size w w' := by
  have e63 : maxLen ≤ 9223372036854775807 := by decide
  have hlp : m.prof.length ≤ 9223372036854775807 := Nat.le_trans ok.prof e63
  have hll : m.links.length ≤ 9223372036854775807 := Nat.le_trans ok.links e63
  have HE := Lib.hid (show encM m = Crc.sealed (headE m) by simp [encM, hv, cont, h1, h2])
  have HI1 := i64_5 ok.kind ok.fro ok.to ok.seq ok.time
  have hn1 := encIs_len5 HI1 (by simp)
  have HV := Lib.hid hv
  clear hv
  go_enter Try.func61, Try.ntmps61
  go_wp2_with fail
  refine (valid_any m A c A' c' _ hlp hll (hp.now (by (repeat' (first | (with_reducible exact Below.refl _ _) | (with_reducible assumption) | (with_reducible refine Below.drewN ?_ _) | (with_reducible refine Below.drew ?_) | (with_reducible refine Below.alloc ?_ ?_ _) | (with_reducible refine Below.setCell ?_ ?_ _) | (with_reducible exact Nat.le_refl _) | (with_reducible exact Below.size (by assumption)) | omega | (simp only [World.size_alloc, World.size_setCell, World.size_drew]; omega) | (simp; done) | (simp; omega))))) (hl.now (by (repeat' (first | (with_reducible exact Below.refl _ _) | (with_reducible assumption) | (with_reducible refine Below.drewN ?_ _) | (with_reducible refine Below.drew ?_) | (with_reducible refine Below.alloc ?_ ?_ _) | (with_reducible refine Below.setCell ?_ ?_ _) | (with_reducible exact Nat.le_refl _) | (with_reducible exact Below.size (by assumption)) | omega | (simp only [World.size_alloc, World.size_setCell, World.size_drew]; omega) | (simp; done) | (simp; omega)))))).mono ?_
  rintro e w1 ⟨rfl, hb1⟩
  have hB1 := bthru (w := w) hb1 (by (repeat' (first | (with_reducible exact Below.refl _ _) | (with_reducible assumption) | (with_reducible refine Below.drewN ?_ _) | (with_reducible refine Below.drew ?_) | (with_reducible refine Below.alloc ?_ ?_ _) | (with_reducible refine Below.setCell ?_ ?_ _) | (with_reducible exact Nat.le_refl _) | (with_reducible exact Below.size (by assumption)) | omega | (simp only [World.size_alloc, World.size_setCell, World.size_drew]; omega) | (simp; done) | (simp; omega))))
  have hc1 := bcell hb1
  have hz1 : w.heap.size < w1.heap.size := by have := hb1.size; rw [World.size_alloc] at this; omega
  rw [HV.out]
  go_wp2_with (first
    | (go_at_call 81; refine (carries_any _ _).mono ?_; rintro e w' ⟨rfl, rfl⟩)
    | (go_at_call 79; refine (write_any w1.heap.size w1.heap.size (w1.heap.size + 1) [] [m.kind, m.fro, m.to, m.seq, m.time] _ ((Bld.fresh w1).alloc _) (by simp; omega) (heap_new1 _ _ _) (by omega) HI1 (by simp) (by simp)).mono ?_; rintro e w2 ⟨rfl, hbl, hb2, -⟩; have hB2 : Below w1.heap.size w1 w2 := (((Below.refl _ _).alloc (Nat.le_refl _) _).alloc (by simp) _).trans hb2; have hc2 := bcell hB2; have hz2 := hB2.size; clear hb2)
    | (go_at_call 82; refine (builderString_any _ _ _ _ hbl (by omega)).mono ?_; rintro e w5 ⟨rfl, hb5⟩)
    | (go_at_call 22; refine (seal_any _ _ (by (try simp only [List.nil_append, List.length_append, List.length_nil]); omega)).mono ?_; rintro e w6 ⟨rfl, hb6⟩))
  go_ret
  exact ⟨by rw [HE.out]; rfl, (hB1.trans (hB2.mono hB1.size)).trans ((hb5.mono hB1.size).trans (hb6.mono (by have := hb5.size; omega)))⟩
set_option maxRecDepth 100000 in
set_option maxHeartbeats 2000000 in
theorem encode_rep (m : Msg) (A : Option Addr) (c : Nat) (A' : Option Addr) (c' : Nat) (w : World) (ok : m.Ok) (hp : RdS cSeg w w.heap.size A m.prof) (hl : RdS cLnk w w.heap.size A' m.links) (hv : validB m = true) (h1 : (m.kind == 1) = true) (h2 : carB m.kind = false) :
    Calls Try.prog 61 #[.agg #[.int .i64 m.kind, .int .i64 m.fro, .int .i64 m.to, .int .i64 m.seq, .int .i64 m.time, .int .i64 m.aseq, .int .i64 m.aend, .slice A m.prof.length c, .slice A' m.links.length c', .int .i64 m.min, .int .i64 m.speed, .int .i64 m.mode, .int .i64 m.acc, .bool m.whole]] w fun e w' => e = .returned (.string (bs (encM m))) ∧ Below w.heap.size w w' := by
  have e63 : maxLen ≤ 9223372036854775807 := by decide
  have hlp : m.prof.length ≤ 9223372036854775807 := Nat.le_trans ok.prof e63
  have hll : m.links.length ≤ 9223372036854775807 := Nat.le_trans ok.links e63
  have HE := Lib.hid (show encM m = Crc.sealed (headE m ++ repE m) by simp [encM, hv, cont, h1, h2])
  have HI1 := i64_5 ok.kind ok.fro ok.to ok.seq ok.time
  have hn1 := encIs_len5 HI1 (by simp)
  have HI2 := i64_4 ok.min ok.speed ok.mode ok.acc
  have hn2 := encIs_len5 HI2 (by simp)
  have hn3 : (Wire.encB m.whole).length ≤ 1 := by cases m.whole <;> decide
  have HV := Lib.hid hv
  clear hv
  go_enter Try.func61, Try.ntmps61
  go_wp2_with fail
  refine (valid_any m A c A' c' _ hlp hll (hp.now (by (repeat' (first | (with_reducible exact Below.refl _ _) | (with_reducible assumption) | (with_reducible refine Below.drewN ?_ _) | (with_reducible refine Below.drew ?_) | (with_reducible refine Below.alloc ?_ ?_ _) | (with_reducible refine Below.setCell ?_ ?_ _) | (with_reducible exact Nat.le_refl _) | (with_reducible exact Below.size (by assumption)) | omega | (simp only [World.size_alloc, World.size_setCell, World.size_drew]; omega) | (simp; done) | (simp; omega))))) (hl.now (by (repeat' (first | (with_reducible exact Below.refl _ _) | (with_reducible assumption) | (with_reducible refine Below.drewN ?_ _) | (with_reducible refine Below.drew ?_) | (with_reducible refine Below.alloc ?_ ?_ _) | (with_reducible refine Below.setCell ?_ ?_ _) | (with_reducible exact Nat.le_refl _) | (with_reducible exact Below.size (by assumption)) | omega | (simp only [World.size_alloc, World.size_setCell, World.size_drew]; omega) | (simp; done) | (simp; omega)))))).mono ?_
  rintro e w1 ⟨rfl, hb1⟩
  have hB1 := bthru (w := w) hb1 (by (repeat' (first | (with_reducible exact Below.refl _ _) | (with_reducible assumption) | (with_reducible refine Below.drewN ?_ _) | (with_reducible refine Below.drew ?_) | (with_reducible refine Below.alloc ?_ ?_ _) | (with_reducible refine Below.setCell ?_ ?_ _) | (with_reducible exact Nat.le_refl _) | (with_reducible exact Below.size (by assumption)) | omega | (simp only [World.size_alloc, World.size_setCell, World.size_drew]; omega) | (simp; done) | (simp; omega))))
  have hc1 := bcell hb1
  have hz1 : w.heap.size < w1.heap.size := by have := hb1.size; rw [World.size_alloc] at this; omega
  rw [HV.out]
  go_wp2_with fail
  refine (write_any w1.heap.size w1.heap.size (w1.heap.size + 1) [] [m.kind, m.fro, m.to, m.seq, m.time] _ ((Bld.fresh w1).alloc _) (by simp; omega) (heap_new1 _ _ _) (by omega) HI1 (by simp) (by simp)).mono ?_
  rintro e w2 ⟨rfl, hbl, hb2, -⟩
  have hB2 : Below w1.heap.size w1 w2 := (((Below.refl _ _).alloc (Nat.le_refl _) _).alloc (by simp) _).trans hb2
  have hc2 := bcell hB2
  have hz2 := hB2.size
  have hs2 : w1.heap.size < w2.heap.size := by have := hb2.size; rw [World.size_alloc, World.size_alloc] at this; omega
  clear hb2
  go_wp2_with (go_at_call 81; refine (carries_any _ _).mono ?_; rintro e w' ⟨rfl, rfl⟩)
  refine (write_any w1.heap.size w1.heap.size w2.heap.size ([] ++ Wire.encIs [m.kind, m.fro, m.to, m.seq, m.time]) [m.min, m.speed, m.mode, m.acc] _ (hbl.alloc _) (by simp; omega) (heap_new _ _) (by omega) HI2 (by simp) (by rw [List.nil_append]; omega)).mono ?_
  rintro e w3 ⟨rfl, hbl3, hb3, -⟩
  have hB3 : Below w1.heap.size w1 w3 := (hB2.alloc hB2.size _).trans hb3
  have hc3 := bcell hB3
  have hz3 := hB3.size
  clear hb3 hc2
  go_wp2_with fail
  refine (bool_any _ _).mono ?_
  rintro e w' ⟨rfl, rfl⟩
  go_wp2_with fail
  refine (writeString_any w1.heap.size w1.heap.size _ (Wire.encB m.whole) _ hbl3 (by (try simp only [List.nil_append, List.length_append, List.length_nil]); omega) (by omega)).mono ?_
  rintro e w4 ⟨rfl, hbl4, hb4, -⟩
  have hB4 := hB3.trans hb4
  have hz4 := hB4.size
  clear hc3
  go_wp2_with fail
  refine (builderString_any _ _ _ _ hbl4 (by omega)).mono ?_
  rintro e w5 ⟨rfl, hb5⟩
  go_wp2_with fail
  refine (seal_any _ _ (by (try simp only [List.nil_append, List.length_append, List.length_nil]); omega)).mono ?_
  rintro e w6 ⟨rfl, hb6⟩
  go_wp2_with fail
  go_ret
  exact ⟨by rw [HE.out]; simp [headE, repE, List.append_assoc], (hB1.trans (hB4.mono hB1.size)).trans ((hb5.mono hB1.size).trans (hb6.mono (by have := hb5.size; omega)))⟩
end Go.Proofs.Ytlpkkcodmoklaaa
