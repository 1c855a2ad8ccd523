/- The readers of messages: a block that the steps turn, and the walks of the steps. -/
import Derived.Test.YtlpkkcodmoklaaaHeld
import Derived.Test.YtlpkkcodmoklaaaWireWalksI
import Derived.Test.YtlpkkcodmoklaaaMsgPlain
import Derived.Lib.Builder
import Derived.Deep.RegionHeld3
import Derived.Handy
namespace Go.Proofs.Ytlpkkcodmoklaaa
set_option linter.unusedVariables false
set_option linter.unusedSimpArgs false
open Go.RowKit
attribute [local go_sem] bs_size bs_get bs_append bs_extract bs_toList
/-- Nothing of what was there turns, but for block rb. -/
structure Only (rb : Nat) (w w' : World) : Prop where
  os : w'.os = w.os
  tape : w'.tape = w.tape
  output : w'.output = w.output
  size : w.heap.size ≤ w'.heap.size
  block : ∀ k, k < w.heap.size → k ≠ rb → w'.heap[k]? = w.heap[k]?
theorem Only.refl (rb : Nat) (w : World) : Only rb w w := ⟨rfl, rfl, rfl, Nat.le_refl _, fun _ _ _ => rfl⟩
theorem Only.of_below {rb : Nat} {w w' : World} (h : Below w.heap.size w w') : Only rb w w' := ⟨h.os, h.tape, h.output, h.size, fun k hk _ => h.block k hk⟩
theorem Only.trans {rb : Nat} {u v w : World} (h : Only rb u v) (k : Only rb v w) : Only rb u w :=
  ⟨k.os.trans h.os, k.tape.trans h.tape, k.output.trans h.output, Nat.le_trans h.size k.size, fun i hi hn => (k.block i (Nat.lt_of_lt_of_le hi h.size) hn).trans (h.block i hi hn)⟩
theorem Only.setCell (rb j : Nat) (w : World) (u : Value) : Only rb w (w.setCell ⟨rb, j, none⟩ u) :=
  ⟨rfl, rfl, rfl, by simp [World.setCell], fun k _ hn => Below.heap_setCell _ _ _ _ hn⟩
theorem Only.below {rb B : Nat} {w0 w w' : World} (h : Only rb w w') (hb : Below B w0 w) (hB : B ≤ rb) (hrb : rb < w.heap.size) : Below B w0 w' :=
  hb.trans ⟨h.os, h.tape, h.output, h.size, fun k hk => h.block k (by omega) (by omega)⟩
theorem Only.cell {rb : Nat} {w w' : World} (h : Only rb w w') {b j : Nat} (hb : b < w.heap.size) (hn : b ≠ rb) : w'.cell? ⟨b, j, none⟩ = w.cell? ⟨b, j, none⟩ := World.cell?_of_block (a := ⟨b, j, none⟩) (h.block b hb hn)
theorem Only.frozen {rb : Nat} {w w' : World} (h : Only rb w w') {b j : Nat} (hb : b < w.heap.size) (hn : b ≠ rb) : w'.frozen? ⟨b, j, none⟩ = w.frozen? ⟨b, j, none⟩ := World.frozen?_of_block (a := ⟨b, j, none⟩) (h.block b hb hn)
theorem heap_set (w : World) (b j : Nat) (u : Value) (cs : Array Value) (T : TypeId) (fr : Nat × Nat) (h : w.heap[b]? = some (.cells cs T fr)) : (w.setCell ⟨b, j, none⟩ u).heap[b]? = some (.cells (cs.setIfInBounds j u) T fr) := by
  simp [World.setCell, Array.getElem?_modify, h]
theorem heap_lt {w : World} {k : Nat} {o : Obj} (h : w.heap[k]? = some o) : k < w.heap.size := (Array.getElem?_eq_some_iff.1 h).1
def stepI (t : List UInt8) (s : Int × Bool) : Int × Int × Bool := if s.2 = false ∧ (Wire.takeI t s.1).2.2 = 0 then ((Wire.takeI t s.1).1, (Wire.takeI t s.1).2.1, false) else (0, s.1, true)
def stepT (t : List UInt8) (s : Int × Bool) : Bool × Int × Bool := if s.2 = false ∧ (Wire.takeB t s.1).2.2 = 0 then ((Wire.takeB t s.1).1, (Wire.takeB t s.1).2.1, false) else (false, s.1, true)
def stepC (most : Int) (t : List UInt8) (s : Int × Bool) : Nat × Int × Bool := if s.2 = false ∧ (Wire.takeC t s.1 most).2.2 = 0 then ((Wire.takeC t s.1 most).1, (Wire.takeC t s.1 most).2.1, false) else (0, s.1, true)
def refI (t : List UInt8) (s : Int) : Int × Int := if (Wire.takeI t s).2.2 = 0 then ((Wire.takeI t s).1, (Wire.takeI t s).2.1) else (0, s)
def refC (t : List UInt8) (s : Int) : Nat × Int := if (Wire.takeC t s 200).2.2 = 0 then ((Wire.takeC t s 200).1, (Wire.takeC t s 200).2.1) else (0, s)
/-- The program's reader lies in block rb. -/
def Rdr (rb : Nat) (t : List UInt8) (s : Int × Bool) (w : World) : Prop := w.heap[rb]? = some (.cells #[.string (bs t), .int .i64 s.1, .bool s.2] 105 (0, 0)) ∧ 0 ≤ s.1 ∧ s.1 ≤ t.length
/-- The reference's reader lies in block rb. -/
def RdrR (rb : Nat) (t : List UInt8) (s : Int) (w : World) : Prop := w.heap[rb]? = some (.cells #[.string (bs t), .int .i64 s] 109 (0, 0)) ∧ 0 ≤ s ∧ s ≤ t.length
theorem takeI_in {t : List UInt8} {s : Int} (h : (Wire.takeI t s).2.2 = 0) : 0 ≤ (Wire.takeI t s).2.1 ∧ (Wire.takeI t s).2.1 ≤ t.length := Wire.takeI_next h
theorem takeB_in {t : List UInt8} {s : Int} (h : (Wire.takeB t s).2.2 = 0) : 0 ≤ (Wire.takeB t s).2.1 ∧ (Wire.takeB t s).2.1 ≤ t.length := by
  have := Wire.takeB_part h
  exact ⟨Int.le_trans this.1 this.2.1, this.2.2.1⟩
theorem takeC_in {t : List UInt8} {s most : Int} (h : (Wire.takeC t s most).2.2 = 0) : 0 ≤ (Wire.takeC t s most).2.1 ∧ (Wire.takeC t s most).2.1 ≤ t.length := by
  have := Wire.takeC_bd h
  omega
theorem takeBoolB_any (l : List UInt8) (at' : Int) (w : World) (hs : l.length ≤ 140737488351232) :
    Calls Try.prog 48 #[.string (bs l), .int .i64 at'] w fun e w' => e = .returned (.tuple #[.bool (Wire.takeB l at').1, .int .i64 (Wire.takeB l at').2.1, .int .i64 (Wire.takeB l at').2.2]) ∧ Below w.heap.size w w' :=
  (takeBool_any l at' w hs).mono fun _ _ ⟨h, hw⟩ => ⟨h, hw ▸ Below.refl _ _⟩
theorem held_last2 {a b f : Prop} (h : a ∧ b ∧ f) : f := h.2.2
set_option maxRecDepth 100000 in
set_option maxHeartbeats 2000000 in
theorem number_any (rb : Nat) (t : List UInt8) (s : Int × Bool) (w : World) (h : Rdr rb t s w) (ht : t.length ≤ 100000) :
    Calls Try.prog 94 #[.pointer (some ⟨rb, 0, none⟩)] w fun e w' => e = .returned (.int .i64 ((stepI t s).1)) ∧ Rdr rb t (stepI t s).2 w' ∧ Only rb w w' := by
  obtain ⟨at', bad⟩ := s
  obtain ⟨hb, h0, hlen⟩ := h
  simp only [] at hb h0 hlen
  have hlt := heap_lt hb
  have c0 : w.cell? ⟨rb, 0, none⟩ = some (.string (bs t)) := by rw [Lib.cell_of_heap hb]; rfl
  have c1 : w.cell? ⟨rb, 1, none⟩ = some (.int .i64 at') := by rw [Lib.cell_of_heap hb]; rfl
  have S1 : w.cell? ⟨rb, 0, none⟩ = some (.string (bs t)) ∧ w.cell? ⟨rb, 1, none⟩ = some (.int .i64 at') ∧ Below w.heap.size w w := ⟨c0, c1, Below.refl _ _⟩
  obtain ⟨x, nx, er, hti⟩ : ∃ x nx er, Wire.takeI t at' = (x, nx, er) := ⟨_, _, _, rfl⟩
  have hin : er = 0 → 0 ≤ nx ∧ nx ≤ t.length := fun he => by
    have := takeI_in (t := t) (s := at')  (by rw [hti]; exact he)
    rw [hti] at this
    exact this
  have hst : stepI t (at', bad) = if bad = false ∧ er = 0 then (x, nx, false) else (0, at', true) := by simp [stepI, hti]
  have HST := Lib.hid hst
  have HTI := Lib.hid hti
  clear hst hti
  have HX : x = x := rfl
  rcases (show (bad = true) ∨ (bad = false ∧ (er != 0) = true) ∨ (bad = false ∧ er = 0) by
    cases bad
    · by_cases he : er = 0
      · exact .inr (.inr ⟨rfl, he⟩)
      · exact .inr (.inl ⟨rfl, by simp [he]⟩)
    · exact .inl rfl) with rfl | ⟨rfl, he⟩ | ⟨rfl, he⟩
  all_goals (
    clear c0 c1 HX
    go_enter Try.func94, Try.ntmps94
    go_wp2_with fail
    go_region_held3 (fun w' => w'.cell? ⟨rb, 0, none⟩ = some (.string (bs t)) ∧ w'.cell? ⟨rb, 1, none⟩ = some (.int .i64 at') ∧ Below w.heap.size w w')
      (first | assumption | exact held2_drew ‹_› | (refine held2_step hlt hlt ?_ ‹_›; assumption))
      (first
        | (go_at_call 45; refine (takeInt_any t at' _ (by omega) (by omega) (by omega)).mono ?_; rw [HTI.out]; rintro e wq ⟨rfl, hq⟩)))
  all_goals (
    have hBq : Below w.heap.size w wq := held_last2 (by assumption)
    have hbq := (hBq.block rb hlt).trans hb
    have d2 := Lib.cell_of_heap hbq 2
    have f1 := Lib.frozen_of_heap hbq 1
    have f2 := Lib.frozen_of_heap hbq 2
    simp only [List.getElem?_toArray, List.getElem?_cons_succ, List.getElem?_cons_zero] at d2)
  · go_wp2_with fail
    go_ret
    refine ⟨by rw [HST.out]; rfl, ⟨?_, ?_⟩, (Only.of_below hBq).trans (Only.setCell _ _ _ _)⟩
    · rw [heap_set _ _ _ _ _ _ _ hbq, HST.out]; rfl
    · rw [HST.out]; exact ⟨h0, hlen⟩
  · have he' : ¬ er = 0 := by simpa using he
    go_wp2_with fail
    go_ret
    refine ⟨by rw [HST.out]; simp [he'], ⟨?_, ?_⟩, (Only.of_below hBq).trans (Only.setCell _ _ _ _)⟩
    · rw [heap_set _ _ _ _ _ _ _ hbq, HST.out]; simp [he']
    · rw [HST.out]; simp [he']; exact ⟨h0, hlen⟩
  · have hn := hin he
    have he2 : (er != 0) = false := by simp [he]
    have HE := Lib.hid he
    clear he hin
    go_wp2_with fail
    go_ret
    refine ⟨by rw [HST.out]; simp [HE.out], ⟨?_, ?_⟩, (Only.of_below hBq).trans (Only.setCell _ _ _ _)⟩
    · rw [heap_set _ _ _ _ _ _ _ hbq, HST.out]; simp [HE.out]
    · rw [HST.out]; simp [HE.out]; exact hn
set_option maxRecDepth 100000 in
set_option maxHeartbeats 2000000 in
theorem truth_any (rb : Nat) (t : List UInt8) (s : Int × Bool) (w : World) (h : Rdr rb t s w) (ht : t.length ≤ 100000) :
    Calls Try.prog 96 #[.pointer (some ⟨rb, 0, none⟩)] w fun e w' => e = .returned (.bool ((stepT t s).1)) ∧ Rdr rb t (stepT t s).2 w' ∧ Only rb w w' := by
  obtain ⟨at', bad⟩ := s
  obtain ⟨hb, h0, hlen⟩ := h
  simp only [] at hb h0 hlen
  have hlt := heap_lt hb
  have c0 : w.cell? ⟨rb, 0, none⟩ = some (.string (bs t)) := by rw [Lib.cell_of_heap hb]; rfl
  have c1 : w.cell? ⟨rb, 1, none⟩ = some (.int .i64 at') := by rw [Lib.cell_of_heap hb]; rfl
  have S1 : w.cell? ⟨rb, 0, none⟩ = some (.string (bs t)) ∧ w.cell? ⟨rb, 1, none⟩ = some (.int .i64 at') ∧ Below w.heap.size w w := ⟨c0, c1, Below.refl _ _⟩
  obtain ⟨x, nx, er, hti⟩ : ∃ x nx er, Wire.takeB t at' = (x, nx, er) := ⟨_, _, _, rfl⟩
  have hin : er = 0 → 0 ≤ nx ∧ nx ≤ t.length := fun he => by
    have := takeB_in (t := t) (s := at')  (by rw [hti]; exact he)
    rw [hti] at this
    exact this
  have hst : stepT t (at', bad) = if bad = false ∧ er = 0 then (x, nx, false) else (false, at', true) := by simp [stepT, hti]
  have HST := Lib.hid hst
  have HTI := Lib.hid hti
  clear hst hti
  have HX : x = x := rfl
  rcases (show (bad = true) ∨ (bad = false ∧ (er != 0) = true) ∨ (bad = false ∧ er = 0) by
    cases bad
    · by_cases he : er = 0
      · exact .inr (.inr ⟨rfl, he⟩)
      · exact .inr (.inl ⟨rfl, by simp [he]⟩)
    · exact .inl rfl) with rfl | ⟨rfl, he⟩ | ⟨rfl, he⟩
  all_goals (
    clear c0 c1 HX
    go_enter Try.func96, Try.ntmps96
    go_wp2_with fail
    go_region_held3 (fun w' => w'.cell? ⟨rb, 0, none⟩ = some (.string (bs t)) ∧ w'.cell? ⟨rb, 1, none⟩ = some (.int .i64 at') ∧ Below w.heap.size w w')
      (first | assumption | exact held2_drew ‹_› | (refine held2_step hlt hlt ?_ ‹_›; assumption))
      (first
        | (go_at_call 48; refine (takeBoolB_any t at' _ (by omega)).mono ?_; rw [HTI.out]; rintro e wq ⟨rfl, hq⟩)))
  all_goals (
    have hBq : Below w.heap.size w wq := held_last2 (by assumption)
    have hbq := (hBq.block rb hlt).trans hb
    have d2 := Lib.cell_of_heap hbq 2
    have f1 := Lib.frozen_of_heap hbq 1
    have f2 := Lib.frozen_of_heap hbq 2
    simp only [List.getElem?_toArray, List.getElem?_cons_succ, List.getElem?_cons_zero] at d2)
  · go_wp2_with fail
    go_ret
    refine ⟨by rw [HST.out]; rfl, ⟨?_, ?_⟩, (Only.of_below hBq).trans (Only.setCell _ _ _ _)⟩
    · rw [heap_set _ _ _ _ _ _ _ hbq, HST.out]; rfl
    · rw [HST.out]; exact ⟨h0, hlen⟩
  · have he' : ¬ er = 0 := by simpa using he
    go_wp2_with fail
    go_ret
    refine ⟨by rw [HST.out]; simp [he'], ⟨?_, ?_⟩, (Only.of_below hBq).trans (Only.setCell _ _ _ _)⟩
    · rw [heap_set _ _ _ _ _ _ _ hbq, HST.out]; simp [he']
    · rw [HST.out]; simp [he']; exact ⟨h0, hlen⟩
  · have hn := hin he
    have he2 : (er != 0) = false := by simp [he]
    have HE := Lib.hid he
    clear he hin
    go_wp2_with fail
    go_ret
    refine ⟨by rw [HST.out]; simp [HE.out], ⟨?_, ?_⟩, (Only.of_below hBq).trans (Only.setCell _ _ _ _)⟩
    · rw [heap_set _ _ _ _ _ _ _ hbq, HST.out]; simp [HE.out]
    · rw [HST.out]; simp [HE.out]; exact hn
set_option maxRecDepth 100000 in
set_option maxHeartbeats 2000000 in
theorem count_any (rb : Nat) (t : List UInt8) (s : Int × Bool) (w : World) (h : Rdr rb t s w) (ht : t.length ≤ 100000) (most : Int) (h3 : -9223372036854775808 ≤ most) (h4 : most ≤ 9223372036854775807) :
    Calls Try.prog 99 #[.pointer (some ⟨rb, 0, none⟩), .int .i64 most] w fun e w' => e = .returned (.int .i64 ((stepC most t s).1 : Nat)) ∧ Rdr rb t (stepC most t s).2 w' ∧ Only rb w w' := by
  obtain ⟨at', bad⟩ := s
  obtain ⟨hb, h0, hlen⟩ := h
  simp only [] at hb h0 hlen
  have hlt := heap_lt hb
  have c0 : w.cell? ⟨rb, 0, none⟩ = some (.string (bs t)) := by rw [Lib.cell_of_heap hb]; rfl
  have c1 : w.cell? ⟨rb, 1, none⟩ = some (.int .i64 at') := by rw [Lib.cell_of_heap hb]; rfl
  have S1 : w.cell? ⟨rb, 0, none⟩ = some (.string (bs t)) ∧ w.cell? ⟨rb, 1, none⟩ = some (.int .i64 at') ∧ Below w.heap.size w w := ⟨c0, c1, Below.refl _ _⟩
  obtain ⟨x, nx, er, hti⟩ : ∃ x nx er, Wire.takeC t at' most = (x, nx, er) := ⟨_, _, _, rfl⟩
  have hin : er = 0 → 0 ≤ nx ∧ nx ≤ t.length := fun he => by
    have := takeC_in (t := t) (s := at') (most := most) (by rw [hti]; exact he)
    rw [hti] at this
    exact this
  have hst : stepC most t (at', bad) = if bad = false ∧ er = 0 then (x, nx, false) else (0, at', true) := by simp [stepC, hti]
  have HST := Lib.hid hst
  have HTI := Lib.hid hti
  clear hst hti
  have HX : x = x := rfl
  rcases (show (bad = true) ∨ (bad = false ∧ (er != 0) = true) ∨ (bad = false ∧ er = 0) by
    cases bad
    · by_cases he : er = 0
      · exact .inr (.inr ⟨rfl, he⟩)
      · exact .inr (.inl ⟨rfl, by simp [he]⟩)
    · exact .inl rfl) with rfl | ⟨rfl, he⟩ | ⟨rfl, he⟩
  all_goals (
    clear c0 c1 HX
    go_enter Try.func99, Try.ntmps99
    go_wp2_with fail
    go_region_held3 (fun w' => w'.cell? ⟨rb, 0, none⟩ = some (.string (bs t)) ∧ w'.cell? ⟨rb, 1, none⟩ = some (.int .i64 at') ∧ Below w.heap.size w w')
      (first | assumption | exact held2_drew ‹_› | (refine held2_step hlt hlt ?_ ‹_›; assumption))
      (first
        | (go_at_call 34; refine (takeCount_any t at' most _ (by omega) (by omega) (by omega) (by omega) (by omega)).mono ?_; rw [HTI.out]; rintro e wq ⟨rfl, hq⟩)))
  all_goals (
    have hBq : Below w.heap.size w wq := held_last2 (by assumption)
    have hbq := (hBq.block rb hlt).trans hb
    have d2 := Lib.cell_of_heap hbq 2
    have f1 := Lib.frozen_of_heap hbq 1
    have f2 := Lib.frozen_of_heap hbq 2
    simp only [List.getElem?_toArray, List.getElem?_cons_succ, List.getElem?_cons_zero] at d2)
  · go_wp2_with fail
    go_ret
    refine ⟨by rw [HST.out]; rfl, ⟨?_, ?_⟩, (Only.of_below hBq).trans (Only.setCell _ _ _ _)⟩
    · rw [heap_set _ _ _ _ _ _ _ hbq, HST.out]; rfl
    · rw [HST.out]; exact ⟨h0, hlen⟩
  · have he' : ¬ er = 0 := by simpa using he
    go_wp2_with fail
    go_ret
    refine ⟨by rw [HST.out]; simp [he'], ⟨?_, ?_⟩, (Only.of_below hBq).trans (Only.setCell _ _ _ _)⟩
    · rw [heap_set _ _ _ _ _ _ _ hbq, HST.out]; simp [he']
    · rw [HST.out]; simp [he']; exact ⟨h0, hlen⟩
  · have hn := hin he
    have he2 : (er != 0) = false := by simp [he]
    have HE := Lib.hid he
    clear he hin
    go_wp2_with fail
    go_ret
    refine ⟨by rw [HST.out]; simp [HE.out], ⟨?_, ?_⟩, (Only.of_below hBq).trans (Only.setCell _ _ _ _)⟩
    · rw [heap_set _ _ _ _ _ _ _ hbq, HST.out]; simp [HE.out]
    · rw [HST.out]; simp [HE.out]; exact hn
set_option maxRecDepth 100000 in
set_option maxHeartbeats 2000000 in
theorem rint_any (rb : Nat) (t : List UInt8) (at' : Int) (w : World) (h : RdrR rb t at' w) (ht : t.length ≤ 100000) :
    Calls Try.prog 87 #[.pointer (some ⟨rb, 0, none⟩)] w fun e w' => e = .returned (.int .i64 (refI t at').1) ∧ RdrR rb t (refI t at').2 w' ∧ Only rb w w' := by
  obtain ⟨hb, h0, hlen⟩ := h
  have hlt := heap_lt hb
  have c0 : w.cell? ⟨rb, 0, none⟩ = some (.string (bs t)) := by rw [Lib.cell_of_heap hb]; rfl
  have c1 : w.cell? ⟨rb, 1, none⟩ = some (.int .i64 at') := by rw [Lib.cell_of_heap hb]; rfl
  have S1 : w.cell? ⟨rb, 0, none⟩ = some (.string (bs t)) ∧ w.cell? ⟨rb, 1, none⟩ = some (.int .i64 at') ∧ Below w.heap.size w w := ⟨c0, c1, Below.refl _ _⟩
  obtain ⟨x, nx, er, hti⟩ : ∃ x nx er, Wire.takeI t at' = (x, nx, er) := ⟨_, _, _, rfl⟩
  have hin : er = 0 → 0 ≤ nx ∧ nx ≤ t.length := fun he => by
    have := takeI_in (t := t) (s := at') (by rw [hti]; exact he)
    rw [hti] at this
    exact this
  have hst : refI t at' = if er = 0 then (x, nx) else (0, at') := by simp [refI, hti]
  have HST := Lib.hid hst
  have HTI := Lib.hid hti
  clear hst hti
  rcases (show ((er != 0) = true) ∨ (er = 0) by
      by_cases he : er = 0
      · exact .inr he
      · exact .inl (by simp [he])) with he | he
  all_goals (
    clear c0 c1
    go_enter Try.func87, Try.ntmps87
    go_wp2_with fail
    go_region_held3 (fun w' => w'.cell? ⟨rb, 0, none⟩ = some (.string (bs t)) ∧ w'.cell? ⟨rb, 1, none⟩ = some (.int .i64 at') ∧ Below w.heap.size w w')
      (first | assumption | exact held2_drew ‹_› | (refine held2_step hlt hlt ?_ ‹_›; assumption))
      (first
        | (go_at_call 47; refine (refTakeInt_any t at' _ (by omega) (by omega) (by omega)).mono ?_; rw [HTI.out]; rintro e wq ⟨rfl, hq⟩)))
  all_goals (
    have hBq : Below w.heap.size w wq := held_last2 (by assumption)
    have hbq := (hBq.block rb hlt).trans hb
    have f1 := Lib.frozen_of_heap hbq 1
    have d1 := Lib.cell_of_heap hbq 1
    simp only [List.getElem?_toArray, List.getElem?_cons_succ, List.getElem?_cons_zero] at d1)
  · have he' : ¬ er = 0 := by simpa using he
    go_wp2_with fail
    go_ret
    refine ⟨by rw [HST.out]; simp [he'], ⟨?_, ?_⟩, Only.of_below hBq⟩
    · rw [hbq, HST.out]; simp [he']
    · rw [HST.out]; simp [he']; exact ⟨h0, hlen⟩
  · have hn := hin he
    have he2 : (er != 0) = false := by simp [he]
    have HE := Lib.hid he
    clear he hin
    go_wp2_with fail
    go_ret
    refine ⟨by rw [HST.out]; simp [HE.out], ⟨?_, ?_⟩, (Only.of_below hBq).trans (Only.setCell _ _ _ _)⟩
    · rw [heap_set _ _ _ _ _ _ _ hbq, HST.out]; simp [HE.out]
    · rw [HST.out]; simp [HE.out]; exact hn
set_option maxRecDepth 100000 in
set_option maxHeartbeats 2000000 in
theorem rcount_any (rb : Nat) (t : List UInt8) (at' : Int) (w : World) (h : RdrR rb t at' w) (ht : t.length ≤ 100000) :
    Calls Try.prog 88 #[.pointer (some ⟨rb, 0, none⟩)] w fun e w' => e = .returned (.int .i64 ((refC t at').1 : Nat)) ∧ RdrR rb t (refC t at').2 w' ∧ Only rb w w' := by
  obtain ⟨hb, h0, hlen⟩ := h
  have hlt := heap_lt hb
  have c0 : w.cell? ⟨rb, 0, none⟩ = some (.string (bs t)) := by rw [Lib.cell_of_heap hb]; rfl
  have c1 : w.cell? ⟨rb, 1, none⟩ = some (.int .i64 at') := by rw [Lib.cell_of_heap hb]; rfl
  have S1 : w.cell? ⟨rb, 0, none⟩ = some (.string (bs t)) ∧ w.cell? ⟨rb, 1, none⟩ = some (.int .i64 at') ∧ Below w.heap.size w w := ⟨c0, c1, Below.refl _ _⟩
  obtain ⟨x, nx, er, hti⟩ : ∃ x nx er, Wire.takeC t at' 200 = (x, nx, er) := ⟨_, _, _, rfl⟩
  have hin : er = 0 → 0 ≤ nx ∧ nx ≤ t.length := fun he => by
    have := takeC_in (t := t) (s := at') (most := 200) (by rw [hti]; exact he)
    rw [hti] at this
    exact this
  have hst : refC t at' = if er = 0 then (x, nx) else (0, at') := by simp [refC, hti]
  have HST := Lib.hid hst
  have HTI := Lib.hid hti
  clear hst hti
  rcases (show ((er != 0) = true) ∨ (er = 0) by
      by_cases he : er = 0
      · exact .inr he
      · exact .inl (by simp [he])) with he | he
  all_goals (
    clear c0 c1
    go_enter Try.func88, Try.ntmps88
    go_wp2_with fail
    go_region_held3 (fun w' => w'.cell? ⟨rb, 0, none⟩ = some (.string (bs t)) ∧ w'.cell? ⟨rb, 1, none⟩ = some (.int .i64 at') ∧ Below w.heap.size w w')
      (first | assumption | exact held2_drew ‹_› | (refine held2_step hlt hlt ?_ ‹_›; assumption))
      (first
        | (go_at_call 35; refine (refTakeCount_any t at' 200 _ (by omega) (by omega) (by omega) (by omega) (by omega)).mono ?_; rw [HTI.out]; rintro e wq ⟨rfl, hq⟩)))
  all_goals (
    have hBq : Below w.heap.size w wq := held_last2 (by assumption)
    have hbq := (hBq.block rb hlt).trans hb
    have f1 := Lib.frozen_of_heap hbq 1
    have d1 := Lib.cell_of_heap hbq 1
    simp only [List.getElem?_toArray, List.getElem?_cons_succ, List.getElem?_cons_zero] at d1)
  · have he' : ¬ er = 0 := by simpa using he
    go_wp2_with fail
    go_ret
    refine ⟨by rw [HST.out]; simp [he'], ⟨?_, ?_⟩, Only.of_below hBq⟩
    · rw [hbq, HST.out]; simp [he']
    · rw [HST.out]; simp [he']; exact ⟨h0, hlen⟩
  · have hn := hin he
    have he2 : (er != 0) = false := by simp [he]
    have HE := Lib.hid he
    clear he hin
    go_wp2_with fail
    go_ret
    refine ⟨by rw [HST.out]; simp [HE.out], ⟨?_, ?_⟩, (Only.of_below hBq).trans (Only.setCell _ _ _ _)⟩
    · rw [heap_set _ _ _ _ _ _ _ hbq, HST.out]; simp [HE.out]
    · rw [HST.out]; simp [HE.out]; exact hn
end Go.Proofs.Ytlpkkcodmoklaaa
