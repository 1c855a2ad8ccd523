/- reader.add, whatever the first word. -/
import Derived.Test.YtopoknocfoiiaaaGreatDoorPlAddC
import Derived.Test.YtopoknocfoiiaaaGreatDoorPlTxt
namespace Go.Proofs.YtopoknocfoiiaaaGreatDoor
set_option linter.unusedVariables false
set_option linter.unusedSimpArgs false
open Go.RowKit
/-- A row from its second element on. -/
theorem RdS.tail {α : Type} {c : Cod α} {w : World} {S : Nat → Prop} {b off : Nat} {x : α} {l : List α} (h : RdS c w S (some ⟨b, off, none⟩) (x :: l)) : RdS c w S (some ⟨b, off + c.size, none⟩) l := by
  intro hl
  obtain ⟨b', off', h1, h2, h3⟩ := h (by simp)
  simp only [Option.some.injEq, Addr.mk.injEq, and_true] at h1
  obtain ⟨rfl, rfl⟩ := h1
  refine ⟨_, _, rfl, h2, fun i y hy => ?_⟩
  obtain ⟨ys, h4, h5⟩ := h3 (i + 1) y (by simpa using hy)
  refine ⟨ys, h4, fun j u hu => ?_⟩
  have := h5 j u hu
  rw [show off + (i + 1) * c.size + j = off + c.size + i * c.size + j by rw [Nat.succ_mul]; omega] at this
  exact this
theorem RdS.first {w : World} {S : Nat → Prop} {b off : Nat} {x : List UInt8} {l : List (List UInt8)} (h : RdS cS w S (some ⟨b, off, none⟩) (x :: l)) : S b ∧ x.length ≤ maxLen ∧ w.cell? ⟨b, off, none⟩ = some (.string (bs x)) := by
  obtain ⟨b', off', h1, h2, h3, h4⟩ := h.elS (i := 0) (by simp)
  simp only [Option.some.injEq, Addr.mk.injEq, and_true] at h1
  obtain ⟨rfl, rfl⟩ := h1
  exact ⟨h2, h3, h4⟩
def intsV (l : List Int) : Array Value := (l.map (Value.int .i64)).toArray
theorem len_ex {α : Type} {l : List α} {k : Nat} (h : l.length = k + 1) : ∃ x r, l = x :: r ∧ r.length = k := len_cases h
theorem i64_zero : I64n 0 := by unfold I64n; omega
theorem add_any (w : World) (g : Nat) (l : Lay) (p : Int) (v1 v2 v3 v4 v5 : Value) (h : RW w g l p v1 v2 v3 v4 v5) (word : List UInt8) (hp : 0 ≤ placeF word) (hwl : word.length ≤ maxLen)
    (a : List (List UInt8)) (ha : a.length = (formF word).length) (b off c : Nat) (hr : RdS cS w (fun k => k < g) (some ⟨b, off, none⟩) a) (gi : Nat) (vs : List Int) (hv : vs.length = a.length) (hi : Blk w gi 3 (intsV vs)) (hgi : gi ≠ g) (hvs : ∀ x ∈ vs, I64n x)
    (n : Nat) (hs : SmallL l n) (hn : n ≤ 100000) :
    Calls Tryz.prog 52 #[.pointer (some ⟨g, 0, none⟩), .string (bs word), .slice (some ⟨b, off, none⟩) a.length c, .slice (some ⟨gi, 0, none⟩) a.length a.length] w fun e w' => e = .returned (.tuple #[]) ∧ RWS w' g (addL l word a vs) p ∧ Below g w w' := by
  have s1 := hs.s1
  have s2 := hs.s2
  have s3 := hs.s3
  have s4 := hs.s4
  have s5 := hs.s5
  rcases place_cases word hp with rfl | rfl | rfl | rfl | rfl | rfl | rfl | rfl
  · have e1 : formF layoutW = [110] := by decide
    rw [e1] at ha
    have hv' := hv
    rw [ha] at hv'
    obtain ⟨a0, ar0, rfl, ha0⟩ := len_ex ha
    obtain rfl := len_nil ha0
    obtain ⟨q0, qr0, rfl, hq0⟩ := len_ex hv'
    obtain rfl := len_nil hq0
    have hq0 := hvs q0 (by simp)
    obtain ⟨hb, hsl, y⟩ := hr.first
    exact add_layout w g l p v1 v2 v3 v4 v5 h _ a0 b off 1 c (by omega) y
  · have e1 : formF sectionW = [110] := by decide
    rw [e1] at ha
    have hv' := hv
    rw [ha] at hv'
    obtain ⟨a0, ar0, rfl, ha0⟩ := len_ex ha
    obtain rfl := len_nil ha0
    obtain ⟨q0, qr0, rfl, hq0⟩ := len_ex hv'
    obtain rfl := len_nil hq0
    have hq0 := hvs q0 (by simp)
    obtain ⟨hb, hsl, y⟩ := hr.first
    refine (add_section w g l p v1 v2 v3 v4 v5 h _ a0 b off 1 c hb (by omega) y hsl (by omega)).mono fun e w' ⟨h1, h2, h3⟩ => ⟨h1, ?_, h3⟩
    have e3 : sectionW ≠ layoutW := by decide
    simp only [addL, if_neg e3, if_true]; exact h2
  · have e1 : formF trackW = [110, 115, 105, 105, 105] := by decide
    rw [e1] at ha
    have hv' := hv
    rw [ha] at hv'
    obtain ⟨a0, ar0, rfl, ha0⟩ := len_ex ha
    obtain ⟨a1, ar1, rfl, ha1⟩ := len_ex ha0
    obtain ⟨a2, ar2, rfl, ha2⟩ := len_ex ha1
    obtain ⟨a3, ar3, rfl, ha3⟩ := len_ex ha2
    obtain ⟨a4, ar4, rfl, ha4⟩ := len_ex ha3
    obtain rfl := len_nil ha4
    obtain ⟨q0, qr0, rfl, hq0⟩ := len_ex hv'
    obtain ⟨q1, qr1, rfl, hq1⟩ := len_ex hq0
    obtain ⟨q2, qr2, rfl, hq2⟩ := len_ex hq1
    obtain ⟨q3, qr3, rfl, hq3⟩ := len_ex hq2
    obtain ⟨q4, qr4, rfl, hq4⟩ := len_ex hq3
    obtain rfl := len_nil hq4
    have hq0 := hvs q0 (by simp)
    have hq1 := hvs q1 (by simp)
    have hq2 := hvs q2 (by simp)
    have hq3 := hvs q3 (by simp)
    have hq4 := hvs q4 (by simp)
    obtain ⟨hb, hsl, y⟩ := hr.first
    have e3 : trackW ≠ layoutW ∧ trackW ≠ sectionW ∧ trackW ≠ jointW ∧ trackW ≠ signalW ∧ trackW ≠ baliseW := by decide
    have e4 : kindF trackW = 1 := by decide
    refine (add_element w g trackW hwl 1 e4.symm (by decide) (by decide) (by decide) (by decide) (by decide) a0 b off 5 c hb (by omega) y hsl gi 5 _ q1 q2 q3 q4 0 hi (by omega) (by rfl) (by rfl) (by rfl) (by rfl) (fun h => absurd h (by decide)) (by unfold I64n; omega) hq1 hq2 hq3 hq4 l p v1 v2 v3 v4 v5 h (by omega)).mono fun e w' ⟨h1, h2, h3⟩ => ⟨h1, ?_, h3⟩
    simp only [addL, if_neg e3.1, if_neg e3.2.1, if_neg e3.2.2.1, if_neg e3.2.2.2.1, if_neg e3.2.2.2.2, mkE, e4]; exact h2
  · have e1 : formF crossW = [110, 115, 105, 105, 105] := by decide
    rw [e1] at ha
    have hv' := hv
    rw [ha] at hv'
    obtain ⟨a0, ar0, rfl, ha0⟩ := len_ex ha
    obtain ⟨a1, ar1, rfl, ha1⟩ := len_ex ha0
    obtain ⟨a2, ar2, rfl, ha2⟩ := len_ex ha1
    obtain ⟨a3, ar3, rfl, ha3⟩ := len_ex ha2
    obtain ⟨a4, ar4, rfl, ha4⟩ := len_ex ha3
    obtain rfl := len_nil ha4
    obtain ⟨q0, qr0, rfl, hq0⟩ := len_ex hv'
    obtain ⟨q1, qr1, rfl, hq1⟩ := len_ex hq0
    obtain ⟨q2, qr2, rfl, hq2⟩ := len_ex hq1
    obtain ⟨q3, qr3, rfl, hq3⟩ := len_ex hq2
    obtain ⟨q4, qr4, rfl, hq4⟩ := len_ex hq3
    obtain rfl := len_nil hq4
    have hq0 := hvs q0 (by simp)
    have hq1 := hvs q1 (by simp)
    have hq2 := hvs q2 (by simp)
    have hq3 := hvs q3 (by simp)
    have hq4 := hvs q4 (by simp)
    obtain ⟨hb, hsl, y⟩ := hr.first
    have e3 : crossW ≠ layoutW ∧ crossW ≠ sectionW ∧ crossW ≠ jointW ∧ crossW ≠ signalW ∧ crossW ≠ baliseW := by decide
    have e4 : kindF crossW = 3 := by decide
    refine (add_element w g crossW hwl 3 e4.symm (by decide) (by decide) (by decide) (by decide) (by decide) a0 b off 5 c hb (by omega) y hsl gi 5 _ q1 q2 q3 q4 0 hi (by omega) (by rfl) (by rfl) (by rfl) (by rfl) (fun h => absurd h (by decide)) (by unfold I64n; omega) hq1 hq2 hq3 hq4 l p v1 v2 v3 v4 v5 h (by omega)).mono fun e w' ⟨h1, h2, h3⟩ => ⟨h1, ?_, h3⟩
    simp only [addL, if_neg e3.1, if_neg e3.2.1, if_neg e3.2.2.1, if_neg e3.2.2.2.1, if_neg e3.2.2.2.2, mkE, e4]; exact h2
  · have e1 : formF pointsW = [110, 115, 105, 105, 105, 105] := by decide
    rw [e1] at ha
    have hv' := hv
    rw [ha] at hv'
    obtain ⟨a0, ar0, rfl, ha0⟩ := len_ex ha
    obtain ⟨a1, ar1, rfl, ha1⟩ := len_ex ha0
    obtain ⟨a2, ar2, rfl, ha2⟩ := len_ex ha1
    obtain ⟨a3, ar3, rfl, ha3⟩ := len_ex ha2
    obtain ⟨a4, ar4, rfl, ha4⟩ := len_ex ha3
    obtain ⟨a5, ar5, rfl, ha5⟩ := len_ex ha4
    obtain rfl := len_nil ha5
    obtain ⟨q0, qr0, rfl, hq0⟩ := len_ex hv'
    obtain ⟨q1, qr1, rfl, hq1⟩ := len_ex hq0
    obtain ⟨q2, qr2, rfl, hq2⟩ := len_ex hq1
    obtain ⟨q3, qr3, rfl, hq3⟩ := len_ex hq2
    obtain ⟨q4, qr4, rfl, hq4⟩ := len_ex hq3
    obtain ⟨q5, qr5, rfl, hq5⟩ := len_ex hq4
    obtain rfl := len_nil hq5
    have hq0 := hvs q0 (by simp)
    have hq1 := hvs q1 (by simp)
    have hq2 := hvs q2 (by simp)
    have hq3 := hvs q3 (by simp)
    have hq4 := hvs q4 (by simp)
    have hq5 := hvs q5 (by simp)
    obtain ⟨hb, hsl, y⟩ := hr.first
    have e3 : pointsW ≠ layoutW ∧ pointsW ≠ sectionW ∧ pointsW ≠ jointW ∧ pointsW ≠ signalW ∧ pointsW ≠ baliseW := by decide
    have e4 : kindF pointsW = 2 := by decide
    refine (add_element w g pointsW hwl 2 e4.symm (by decide) (by decide) (by decide) (by decide) (by decide) a0 b off 6 c hb (by omega) y hsl gi 6 _ q1 q2 q3 q4 q5 hi (by omega) (by rfl) (by rfl) (by rfl) (by rfl) (fun _ => ⟨by omega, by rfl, hq5⟩) (by unfold I64n; omega) hq1 hq2 hq3 hq4 l p v1 v2 v3 v4 v5 h (by omega)).mono fun e w' ⟨h1, h2, h3⟩ => ⟨h1, ?_, h3⟩
    simp only [addL, if_neg e3.1, if_neg e3.2.1, if_neg e3.2.2.1, if_neg e3.2.2.2.1, if_neg e3.2.2.2.2, mkE, e4]; exact h2
  · have e1 : formF jointW = [101, 105, 101, 105] := by decide
    rw [e1] at ha
    have hv' := hv
    rw [ha] at hv'
    obtain ⟨a0, ar0, rfl, ha0⟩ := len_ex ha
    obtain ⟨a1, ar1, rfl, ha1⟩ := len_ex ha0
    obtain ⟨a2, ar2, rfl, ha2⟩ := len_ex ha1
    obtain ⟨a3, ar3, rfl, ha3⟩ := len_ex ha2
    obtain rfl := len_nil ha3
    obtain ⟨q0, qr0, rfl, hq0⟩ := len_ex hv'
    obtain ⟨q1, qr1, rfl, hq1⟩ := len_ex hq0
    obtain ⟨q2, qr2, rfl, hq2⟩ := len_ex hq1
    obtain ⟨q3, qr3, rfl, hq3⟩ := len_ex hq2
    obtain rfl := len_nil hq3
    have hq0 := hvs q0 (by simp)
    have hq1 := hvs q1 (by simp)
    have hq2 := hvs q2 (by simp)
    have hq3 := hvs q3 (by simp)
    obtain ⟨hb, hsl, y⟩ := hr.first
    refine (add_joint w g l p v1 v2 v3 v4 v5 h _ gi q0 q1 q2 q3 hq0 hq1 hq2 hq3 hi hgi (by omega)).mono fun e w' ⟨h1, h2, h3⟩ => ⟨h1, ?_, h3⟩
    have e3 : jointW ≠ layoutW ∧ jointW ≠ sectionW := by decide
    simp only [addL, if_neg e3.1, if_neg e3.2, if_true]; exact h2
  · have e1 : formF signalW = [110, 101, 105, 105] := by decide
    rw [e1] at ha
    have hv' := hv
    rw [ha] at hv'
    obtain ⟨a0, ar0, rfl, ha0⟩ := len_ex ha
    obtain ⟨a1, ar1, rfl, ha1⟩ := len_ex ha0
    obtain ⟨a2, ar2, rfl, ha2⟩ := len_ex ha1
    obtain ⟨a3, ar3, rfl, ha3⟩ := len_ex ha2
    obtain rfl := len_nil ha3
    obtain ⟨q0, qr0, rfl, hq0⟩ := len_ex hv'
    obtain ⟨q1, qr1, rfl, hq1⟩ := len_ex hq0
    obtain ⟨q2, qr2, rfl, hq2⟩ := len_ex hq1
    obtain ⟨q3, qr3, rfl, hq3⟩ := len_ex hq2
    obtain rfl := len_nil hq3
    have hq0 := hvs q0 (by simp)
    have hq1 := hvs q1 (by simp)
    have hq2 := hvs q2 (by simp)
    have hq3 := hvs q3 (by simp)
    obtain ⟨hb, hsl, y⟩ := hr.first
    refine (add_signal w g l p v1 v2 v3 v4 v5 h a0 b off 4 c hb (by omega) y hsl gi q0 q1 q2 q3 hq0 hq1 hq2 hq3 hi hgi (by omega)).mono fun e w' ⟨h1, h2, h3⟩ => ⟨h1, ?_, h3⟩
    have e3 : signalW ≠ layoutW ∧ signalW ≠ sectionW ∧ signalW ≠ jointW := by decide
    simp only [addL, if_neg e3.1, if_neg e3.2.1, if_neg e3.2.2, if_true]; exact h2
  · have e1 : formF baliseW = [105, 101, 105] := by decide
    rw [e1] at ha
    have hv' := hv
    rw [ha] at hv'
    obtain ⟨a0, ar0, rfl, ha0⟩ := len_ex ha
    obtain ⟨a1, ar1, rfl, ha1⟩ := len_ex ha0
    obtain ⟨a2, ar2, rfl, ha2⟩ := len_ex ha1
    obtain rfl := len_nil ha2
    obtain ⟨q0, qr0, rfl, hq0⟩ := len_ex hv'
    obtain ⟨q1, qr1, rfl, hq1⟩ := len_ex hq0
    obtain ⟨q2, qr2, rfl, hq2⟩ := len_ex hq1
    obtain rfl := len_nil hq2
    have hq0 := hvs q0 (by simp)
    have hq1 := hvs q1 (by simp)
    have hq2 := hvs q2 (by simp)
    obtain ⟨hb, hsl, y⟩ := hr.first
    refine (add_balise w g l p v1 v2 v3 v4 v5 h _ gi q0 q1 q2 hq0 hq1 hq2 hi hgi (by omega)).mono fun e w' ⟨h1, h2, h3⟩ => ⟨h1, ?_, h3⟩
    have e3 : baliseW ≠ layoutW ∧ baliseW ≠ sectionW ∧ baliseW ≠ jointW ∧ baliseW ≠ signalW := by decide
    simp only [addL, if_neg e3.1, if_neg e3.2.1, if_neg e3.2.2.1, if_neg e3.2.2.2, if_true]; exact h2
end Go.Proofs.YtopoknocfoiiaaaGreatDoor
