/- The walk of reader.read. -/
import Derived.Test.YtopoknocfoiiaaaGreatDoorPlAddD
namespace Go.Proofs.YtopoknocfoiiaaaGreatDoor
set_option linter.unusedVariables false
set_option linter.unusedSimpArgs false
open Go.RowKit
attribute [local go_sem] bs_size bs_get bs_append bs_extract bs_toList
attribute [-go_sem] run_equalIn_agg
theorem intP_i64 (s : List UInt8) : I64n (intF s).1 := by
  unfold intF
  dsimp only []
  repeat' split
  all_goals (unfold I64n; omega)
theorem RdS.low {α : Type} {c : Cod α} {w w' : World} {g : Nat} {A : Option Addr} {l : List α} (h : RdS c w (fun k => k < g) A l) (hb : Below g w w') : RdS c w' (fun k => k < g) A l := h.keep fun _ hp => hb.cell hp
theorem formC {s : List UInt8} {q : Int} {f : List UInt8} (h1 : placeF s = q) (h2 : formF s = f) (w : World) : Calls Tryz.prog 47 #[.string (bs s)] w fun e w' => e = .returned (.tuple #[.int .i64 q, .string (bs f)]) ∧ w = w' := h1 ▸ h2 ▸ form_any s w
theorem followsC {p q : Int} {b : Bool} (h : follB p q = b) (g : Nat) (w : World) (hc : w.cell? ⟨g, 6, none⟩ = some (.int .i64 p)) : Calls Tryz.prog 48 #[.pointer (some ⟨g, 0, none⟩), .int .i64 q] w fun e w' => e = .returned (.bool b) ∧ w = w' := h ▸ follows_any g p q w hc
theorem intPC {s : List UInt8} {n x : Int} (h : intF s = (n, x)) (w : World) (E : EnvR w) (hs : s.length ≤ 281474976710656) : Calls Tryz.prog 49 #[.string (bs s)] w fun e w' => e = .returned (.tuple #[.int .i64 n, .int .i64 x]) ∧ Below w.heap.size w w' := by
  have := int_any s w E hs
  rw [h] at this
  exact this
theorem slice1 (b off m cap : Nat) (hc : m + 1 ≤ cap) (W : World) : (Instr.slice 22 (.slice (some ⟨b, off, none⟩) (m + 1) cap) (some (.int .i64 1)) none none).run Tryz.prog W = .ok (.slice (if cap = 1 then some ⟨b, off, none⟩ else some ⟨b, off + 1, none⟩) m (cap - 1)) W := by
  have he : Tryz.prog.elem 22 = 9 := by kernel_rfl
  rw [run_slice_l W _ _ _ _ (by rw [he]; exact Tryz.underlying22) _ _ (by omega) (by omega)]
  by_cases h1 : cap = 1
  · subst h1
    simp [go_sem, sliced, he]
  · rw [if_neg h1]
    simp [go_sem, sliced, he, h1]
/-- What read gives. -/
def ReadPost (g : Nat) (w : World) (r : Lay × Int × Int) (e : Ending) (w' : World) : Prop := e = .returned (.int .i64 r.2.2) ∧ Below g w w' ∧ (r.2.2 = 0 → RWS w' g r.1 r.2.1)
theorem readPost_no {g : Nat} {w w' : World} {r : Lay × Int × Int} {l : Lay} {p x : Int} {e : Ending} (h : r = (l, p, x)) (hx : x ≠ 0) (he : e = .returned (.int .i64 x)) (hb : Below g w w') : ReadPost g w r e w' := by
  subst h
  exact ⟨he, hb, fun h => absurd h hx⟩
theorem form_pos {w : List UInt8} (h : 0 ≤ placeF w) : 0 < (formF w).length := by
  rcases place_cases w h with rfl | rfl | rfl | rfl | rfl | rfl | rfl | rfl <;> decide
set_option maxRecDepth 100000 in
set_option maxHeartbeats 4000000 in
/-- The line cannot stand here. -/
theorem read_fit (w : World) (g : Nat) (l : Lay) (p : Int) (v1 v2 v3 v4 v5 : Value) (h : RW w g l p v1 v2 v3 v4 v5) (word : List UInt8) (a : List (List UInt8)) (b off cap : Nat) (hr : RdS cS w (fun k => k < g) (some ⟨b, off, none⟩) (word :: a)) (hcap : a.length + 1 ≤ maxLen ∧ a.length + 1 ≤ cap)
    (hfit : fitsB p (word :: a) = false) :
    Calls Tryz.prog 23 #[.pointer (some ⟨g, 0, none⟩), .slice (some ⟨b, off, none⟩) (a.length + 1) cap] w (ReadPost g w (readL l p (word :: a))) := by
  have HX := Lib.hid (readL_fit (l := l) hfit)
  obtain ⟨_, _, y⟩ := hr.first
  have x6 := h.x6
  obtain ⟨q, hq⟩ : ∃ q, placeF word = q := ⟨_, rfl⟩
  obtain ⟨f, hf⟩ : ∃ f, formF word = f := ⟨_, rfl⟩
  have HF := Lib.hid fun w => formC hq hf w
  have hm := hcap.1
  have hc := hcap.2
  unfold maxLen at hm
  have hi0 : (0 : Int) < ((a.length + 1 : Nat) : Int) := by omega
  have hi1 : (0 : Int) ≤ (a.length : Int) := by omega
  have hc1 : (1 : Int) ≤ (cap : Int) := by omega
  have hbl := Below.refl g w
  obtain ⟨A', c', hsl⟩ : ∃ A' c', ∀ W, (Instr.slice 22 (.slice (some ⟨b, off, none⟩) (a.length + 1) cap) (some (.int .i64 1)) none none).run Tryz.prog W = .ok (.slice A' a.length c') W := ⟨_, _, slice1 b off a.length cap hc⟩
  clear hr hcap
  by_cases h0 : q < 0
  · clear hq hf hfit
    go_enter Tryz.func23, Tryz.ntmps23
    go_wp2_with (go_at_call 47; refine (HF.out _).mono ?_; rintro e w' ⟨rfl, rfl⟩)
    go_ret
    exact readPost_no HX.out (by decide) rfl hbl
  have h0' : decide (q < 0) = false := by simpa using h0
  by_cases h1 : a.length = f.length
  · have hfo : follB p q = false := by
      unfold fitsB at hfit
      simp only [List.headD_cons, List.tail_cons, hq, hf, h1] at hfit
      simpa [show (0 : Int) ≤ q by omega] using hfit
    have HO := Lib.hid fun w => followsC hfo g w
    have h2 : ((a.length : Int) != (f.length : Int)) = false := by simp [h1]
    clear hq hf hfit hfo h0 h1
    go_enter Tryz.func23, Tryz.ntmps23
    go_wp2_with (first | (go_at_call 47; refine (HF.out _).mono ?_; rintro e w' ⟨rfl, rfl⟩) | (go_at_call 48; refine (HO.out _ x6).mono ?_; rintro e w' ⟨rfl, rfl⟩))
    go_ret
    exact readPost_no HX.out (by decide) rfl hbl
  · have h2 : ((a.length : Int) != (f.length : Int)) = true := by simp; omega
    clear hq hf hfit h1 h0
    go_enter Tryz.func23, Tryz.ntmps23
    go_wp2_with (first | (go_at_call 47; refine (HF.out _).mono ?_; rintro e w' ⟨rfl, rfl⟩))
    go_ret
    exact readPost_no HX.out (by decide) rfl hbl
end Go.Proofs.YtopoknocfoiiaaaGreatDoor
